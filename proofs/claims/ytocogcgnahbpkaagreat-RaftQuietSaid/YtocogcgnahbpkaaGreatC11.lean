import Derived.Test.YtocogcgnahbpkaaGreatC10
namespace Go.Proofs.YtocogcgnahbpkaaGreat.Rf
def Small (n:Nat) (l:List Nat):Prop:=l.Nodup∧∀ q∈l,1≤q∧q≤n
theorem Small.nil {n:Nat}:Small n []:=⟨List.nodup_nil,fun q hq=>absurd hq (by simp)⟩
theorem Small.one {n q:Nat} (h:1≤q∧q≤n):Small n [q]:=⟨by simp,fun x hx=>by rw [List.mem_singleton] at hx;subst hx;exact h⟩
theorem Small.put {n q:Nat} {l:List Nat} (h:Small n l) (hq:1≤q∧q≤n):Small n (put l q):=by
 unfold Rf.put
 split
 ·exact h
 ·rename_i hn
  refine ⟨List.nodup_append.2 ⟨h.1,by simp,fun a ha b hb e=>?_⟩,fun x hx=>?_⟩
  ·rw [List.mem_singleton] at hb;subst hb;subst e;exact hn ha
  ·rcases List.mem_append.1 hx with hx | hx
   ·exact h.2 x hx
   ·rw [List.mem_singleton] at hx;subst hx;exact hq
theorem Small.filter {n:Nat} {l:List Nat} (h:Small n l) (P:Nat→Bool):Small n (l.filter P):=⟨h.1.filter _,fun q hq=>h.2 q (List.mem_filter.1 hq).1⟩
theorem Small.len {n:Nat} {l:List Nat} (h:Small n l):l.length≤n:=by
 have:=nodup_le (R:=List.range' 1 n) h.1 fun q hq=>List.mem_range'_1.2 (by have:=h.2 q hq;omega)
 rwa [List.length_range'] at this
structure Tame (c:Cfg) (s:Nd):Prop where
 beat:s.beat≤c.beat
 gr:Small c.n s.gr
 rf:Small c.n s.rf
 hd:Small c.n s.hd
 vt:s.vote≤c.n
section
variable {c:Cfg} {draw:Int} {s:Nd} {m:Msg}
theorem Tame.fresh {i t v k:Nat} {l:List Ent} (hv:v≤c.n):Tame c (fresh c draw i t v l k):=⟨Nat.zero_le _,Small.nil,Small.nil,Small.nil,hv⟩
theorem Tame.follow (h:Tame c s) (t l:Nat):Tame c (follow c draw t l s):=⟨h.beat,h.gr,h.rf,h.hd,by show (if s.term<t then 0 else s.vote)≤c.n;split;exact Nat.zero_le _;exact h.vt⟩
theorem Tame.lead (h:Tame c s):Tame c (lead c s).1:=by
 unfold Rf.lead
 simp only
 split <;> exact ⟨Nat.zero_le _,h.gr,h.rf,Small.nil,h.vt⟩
theorem Tame.stand (h:Tame c s) (hi:1≤s.id∧s.id≤c.n):Tame c (stand c draw s).1:=by
 have h1:Tame c (rest c draw { s with term:=s.term+1,vote:=s.id,role:=3,leader:=0,gr:=[s.id],rf:=[] }):=⟨h.beat,Small.one hi,Small.nil,h.hd,hi.2⟩
 unfold Rf.stand
 simp only
 split
 ·exact h1.lead
 ·exact h1
theorem Tame.begin (h:Tame c s) (hi:1≤s.id∧s.id≤c.n):Tame c (begin_ c draw s).1:=by
 unfold begin_
 simp only
 split
 ·exact ⟨h.beat,h.gr,h.rf,h.hd,h.vt⟩
 ·have h1:Tame c { (rest c draw s) with role:=2,leader:=0,gr:=[s.id] }:=⟨h.beat,Small.one hi,h.rf,h.hd,h.vt⟩
  split
  ·exact h1.stand hi
  ·exact h1
theorem Tame.tick (h:Tame c s) (hi:1≤s.id∧s.id≤c.n) (hb:s.role=4→s.beat<c.beat):Tame c (tick c draw s).1:=by
 unfold Rf.tick
 simp only
 split
 ·split
  ·exact Tame.begin (s:={ s with elapsed:=s.elapsed+1 }) ⟨h.beat,h.gr,h.rf,h.hd,h.vt⟩ hi
  ·exact ⟨h.beat,h.gr,h.rf,h.hd,h.vt⟩
 ·rename_i h4
  have hb:=hb (by omega)
  split
  ·exact ⟨by show s.beat+1≤c.beat;omega,h.gr,h.rf,h.hd,by show (if s.term<s.term then 0 else s.vote)≤c.n;split;exact Nat.zero_le _;exact h.vt⟩
  ·by_cases he:c.most≤s.elapsed+1
   ·simp only [if_pos he]
    split
    ·exact ⟨Nat.zero_le _,h.gr,h.rf,Small.nil,h.vt⟩
    ·exact ⟨by show s.beat+1≤c.beat;omega,h.gr,h.rf,Small.nil,h.vt⟩
   ·simp only [if_neg he]
    split
    ·exact ⟨Nat.zero_le _,h.gr,h.rf,h.hd,h.vt⟩
    ·exact ⟨by show s.beat+1≤c.beat;omega,h.gr,h.rf,h.hd,h.vt⟩
theorem Tame.propose (h:Tame c s) {l:List (List Int)}:Tame c (propose c l s).1:=⟨h.beat,h.gr,h.rf,h.hd,h.vt⟩
theorem Tame.kinds (h:Tame c s) (hi:1≤s.id∧s.id≤c.n) (hm:1≤m.src∧m.src≤c.n):Tame c (kinds c draw m s).1:=by
 unfold Rf.kinds
 split
 ·rw [preVote_fst];exact h
 ·unfold preReply
  split
  ·exact h
  ·have h1:Tame c { s with gr:=Rf.put s.gr m.src }:=⟨h.beat,h.gr.put hm,h.rf,h.hd,h.vt⟩
   simp only
   split
   ·exact h1.stand hi
   ·exact h1
 ·unfold vote
  split
  ·exact ⟨h.beat,h.gr,h.rf,h.hd,hm.2⟩
  ·exact h
 ·unfold voteReply
  split
  ·exact h
  ·split
   ·have h1:Tame c { s with rf:=s.rf.filter (·≠m.src),gr:=Rf.put s.gr m.src }:=⟨h.beat,h.gr.put hm,h.rf.filter _,h.hd,h.vt⟩
    simp only
    split
    ·exact h1.lead
    ·exact h1
   ·simp only
    have h1:Tame c (if m.src∈s.gr then s else { s with rf:=Rf.put s.rf m.src }):=by
     split
     ·exact h
     ·exact ⟨h.beat,h.gr,h.rf.put hm,h.hd,h.vt⟩
    generalize (if m.src∈s.gr then s else { s with rf:=Rf.put s.rf m.src })=s1 at h1 ⊢
    split
    ·exact h1.follow _ _
    ·exact h1
 ·unfold append
  simp only
  split
  ·exact h.follow _ _
  ·split
   ·exact h.follow _ _
   ·split
    ·exact h.follow _ _
    ·exact ⟨h.beat,h.gr,h.rf,h.hd,(h.follow (draw:=draw) m.term m.src).vt⟩
 ·unfold appendReply
  split
  ·exact h
  ·have h1:Small c.n (Rf.put s.hd m.src):=h.hd.put hm
   simp only
   split
   ·split
    ·exact ⟨h.beat,h.gr,h.rf,h1,h.vt⟩
    ·exact ⟨h.beat,h.gr,h.rf,h1,h.vt⟩
   ·split
    ·split
     ·exact ⟨h.beat,h.gr,h.rf,h1,h.vt⟩
     ·split <;> exact ⟨h.beat,h.gr,h.rf,h1,h.vt⟩
    ·exact ⟨h.beat,h.gr,h.rf,h1,h.vt⟩
 ·exact h
theorem Tame.message (h:Tame c s) (hi:1≤s.id∧s.id≤c.n) (hm:1≤m.src∧m.src≤c.n):Tame c (message c draw m s).1:=by
 unfold Rf.message
 split
 ·exact h
 ·split
  ·exact (h.follow m.term (if m.kind=5 then m.src else 0)).kinds hi hm
  ·split
   ·exact h
   ·exact h.kinds hi hm
end
structure Nm (K:Nat) (x:Msg):Prop where
 term:x.term≤K+1
 idx:x.idx≤K
 com:x.commit≤K
 hint:x.hint≤K
def Nms (K:Nat) (l:List Msg):Prop:=∀ x∈l,Nm K x
structure Low (c:Cfg) (K:Nat) (s:Nd):Prop where
 fin:s.log.length≤K
 term:s.term≤K
 com:s.commit≤K
 nx:s.role=4→∀ p∈others c s.id,s.nx p≤K+1
section
variable {c:Cfg} {draw:Int} {s:Nd} {m:Msg} {K:Nat}
theorem Nm.more {x:Msg} {K':Nat} (h:Nm K x) (hk:K≤K'):Nm K' x:=⟨by have:=h.term;omega,Nat.le_trans h.idx hk,Nat.le_trans h.com hk,Nat.le_trans h.hint hk⟩
theorem Nms.more {l:List Msg} {K':Nat} (h:Nms K l) (hk:K≤K'):Nms K' l:=fun x hx=>(h x hx).more hk
theorem Nms.nil:Nms K []:=fun x hx=>absurd hx (by simp)
theorem Nms.one {x:Msg} (h:Nm K x):Nms K [x]:=fun y hy=>by rw [List.mem_singleton] at hy;subst hy;exact h
theorem Nms.append {a b:List Msg} (h:Nms K a) (k:Nms K b):Nms K (a++b):=fun x hx=>(List.mem_append.1 hx).elim (h x) (k x)
theorem Nms.sub {a b:List Msg} (h:Nms K a) (k:∀ x∈b,x∈a):Nms K b:=fun x hx=>h x (k x hx)
theorem Nm.app (h:Low c K s) (h4:s.role=4) {p:Nat} (hp:p∈others c s.id):Nm K (app c s p) :=
 ⟨Nat.le_succ_of_le h.term,by show s.nx p-1≤K;have:=h.nx h4 p hp;omega,h.com,Nat.zero_le _⟩
theorem Nms.apps (h:Low c K s) (h4:s.role=4):Nms K (apps c s):=fun x hx=>by
 obtain ⟨p,hp,rfl⟩:=List.mem_map.1 hx
 exact Nm.app h h4 hp
theorem Nms.lead (h:Low c K (lead c s).1):Nms K (lead c s).2:=Nms.apps h lead_role
theorem Nms.stand (hf:s.log.length≤K) (h:Low c K (stand c draw s).1):Nms K (stand c draw s).2:=by
 have ht:(Rf.stand c draw s).1.term=s.term+1:=stand_term
 have h1:=h.term
 unfold Rf.stand at h ⊢
 simp only at h ⊢
 split
 ·rename_i hm
  rw [if_pos hm] at h
  exact Nms.lead h
 ·intro x hx
  obtain ⟨p,_,rfl⟩:=List.mem_map.1 hx
  exact ⟨by show s.term+1≤K+1;omega,hf,Nat.zero_le _,Nat.zero_le _⟩
theorem Nms.begin (hf:s.log.length≤K) (ht:s.term≤K) (h:Low c K (begin_ c draw s).1):Nms K (begin_ c draw s).2:=by
 unfold begin_ at h ⊢
 simp only at h ⊢
 split
 ·exact Nms.nil
 ·rename_i h1
  rw [if_neg h1] at h
  split
  ·rename_i h2
   rw [if_pos h2] at h
   exact Nms.stand hf h
  ·intro x hx
   obtain ⟨p,_,rfl⟩:=List.mem_map.1 hx
   exact ⟨by show s.term+1≤K+1;omega,hf,Nat.zero_le _,Nat.zero_le _⟩
theorem Nms.tick (h0:Low c K s) (h:Low c K (tick c draw s).1):Nms K (tick c draw s).2:=by
 unfold Rf.tick at h ⊢
 simp only at h ⊢
 by_cases h4:s.role≠4
 ·rw [if_pos h4] at h ⊢
  split
  ·rename_i h1
   rw [if_pos h1] at h
   exact Nms.begin h0.fin h0.term h
  ·exact Nms.nil
 ·rw [if_neg h4] at h ⊢
  have h4:s.role=4:=by omega
  split
  ·exact Nms.nil
  ·rename_i h1
   rw [if_neg h1] at h
   by_cases he:c.most≤s.elapsed+1
   ·simp only [if_pos he] at h ⊢
    split
    ·rename_i h2;rw [if_pos h2] at h;exact Nms.apps h h4
    ·exact Nms.nil
   ·simp only [if_neg he] at h ⊢
    split
    ·rename_i h2;rw [if_pos h2] at h;exact Nms.apps h h4
    ·exact Nms.nil
theorem Nms.propose {l:List (List Int)} (h4:s.role=4) (h:Low c K (propose c l s).1):Nms K (propose c l s).2:=Nms.apps h h4
theorem Nms.re {k t i hh:Nat} {r:Bool} (h1:t≤K+1) (h2:i≤K) (h3:hh≤K):Nms K [re s m k t i r hh]:=Nms.one ⟨h1,h2,Nat.zero_le _,h3⟩
theorem merge_snd (es:List Ent):∀ (log:List Ent) (j:Nat),j≤log.length→(merge log j es).2≤(merge log j es).1.length:=by
 induction es with
 | nil=>intro log j h;exact h
 | cons e es ih =>
  intro log j h
  unfold merge
  split
  ·rename_i h1
   refine ih log (j+1) ?_
   cases hx:log[j]? with
   | none=>rw [hx] at h1;cases h1
   | some y=>exact (List.getElem?_eq_some_iff.1 hx).1
  ·simp only
   rw [List.length_append,List.length_take,List.length_take]
   omega
theorem Nms.kinds (hf:s.log.length≤K) (hc:s.commit≤K) (ht:s.term≤K+1) (hm:Nm K m) (hsrc:m.src∈others c s.id) (h:Low c K (kinds c draw m s).1):Nms K (kinds c draw m s).2:=by
 have hmt:=hm.term
 have hmi:=hm.idx
 unfold Rf.kinds at h ⊢
 split
 ·unfold preVote
  split
  ·exact Nms.re hmt (Nat.zero_le _) (Nat.zero_le _)
  ·exact Nms.re ht (Nat.zero_le _) (Nat.zero_le _)
 ·rename_i hk
  simp only [hk] at h
  unfold preReply at h ⊢
  split
  ·exact Nms.nil
  ·rename_i h1
   rw [if_neg h1] at h
   simp only at h ⊢
   split
   ·rename_i h2
    rw [if_pos h2] at h
    exact Nms.stand hf h
   ·exact Nms.nil
 ·unfold vote
  split
  ·exact Nms.re ht (Nat.zero_le _) (Nat.zero_le _)
  ·exact Nms.re ht (Nat.zero_le _) (Nat.zero_le _)
 ·rename_i hk
  simp only [hk] at h
  unfold voteReply at h ⊢
  split
  ·exact Nms.nil
  ·rename_i h1
   rw [if_neg h1] at h
   split
   ·rename_i h2
    rw [if_pos h2] at h
    simp only at h ⊢
    split
    ·rename_i h3
     rw [if_pos h3] at h
     exact Nms.lead h
    ·exact Nms.nil
   ·simp only
    generalize (if m.src∈s.gr then s else { s with rf:=Rf.put s.rf m.src })=s1
    split <;> exact Nms.nil
 ·rename_i hk
  simp only [hk] at h
  have htt:(follow c draw m.term m.src s).term≤K+1:=by show max s.term m.term≤K+1;omega
  unfold Rf.append at h ⊢
  simp only at h ⊢
  split
  ·exact Nms.re htt hc (Nat.zero_le _)
  ·rename_i h1
   rw [if_neg h1] at h
   split
   ·exact Nms.re htt hmi hf
   ·rename_i h2
    rw [if_neg h2] at h
    split
    ·exact Nms.re htt hmi (by omega)
    ·rename_i h3
     rw [if_neg h3] at h
     have h4:=merge_snd m.es s.log m.idx (Nat.le_of_not_lt h2)
     have h5:=h.fin
     exact Nms.re htt (Nat.le_trans h4 h5) (Nat.zero_le _)
 ·rename_i hk
  simp only [hk] at h
  unfold appendReply at h ⊢
  split
  ·exact Nms.nil
  ·rename_i h0
   have h4:s.role=4:=Classical.byContradiction h0
   rw [if_neg h0] at h
   simp only at h ⊢
   split
   ·rename_i h1
    rw [if_pos h1] at h
    split
    ·rename_i h2
     rw [if_pos h2] at h
     exact Nms.one (Nm.app h h4 hsrc)
    ·exact Nms.nil
   ·rename_i h1
    rw [if_neg h1] at h
    split
    ·rename_i h2
     rw [if_pos h2] at h
     split
     ·rename_i h3
      rw [if_pos h3] at h
      exact Nms.apps h h4
     ·rename_i h3
      rw [if_neg h3] at h
      split
      ·rename_i h5
       rw [if_pos h5] at h
       exact Nms.one (Nm.app h h4 hsrc)
      ·exact Nms.nil
    ·exact Nms.nil
 ·exact Nms.nil
theorem Nms.message (hs:Low c K s) (hm:Nm K m) (hsrc:m.src∈others c s.id) (h:Low c K (message c draw m s).1):Nms K (message c draw m s).2:=by
 have hmt:=hm.term
 have hst:=hs.term
 unfold Rf.message at h ⊢
 split
 ·exact Nms.nil
 ·rename_i h1
  rw [if_neg h1] at h
  split
  ·rename_i h2
   rw [if_pos h2] at h
   exact Nms.kinds hs.fin hs.com (by show max s.term m.term≤K+1;omega) hm hsrc h
  ·rename_i h2
   rw [if_neg h2] at h
   split
   ·unfold old
    split
    ·exact Nms.re (by omega) hm.idx (Nat.zero_le _)
    ·split
     ·exact Nms.re (by omega) (Nat.zero_le _) (Nat.zero_le _)
     ·split
      ·exact Nms.re (by omega) (Nat.zero_le _) (Nat.zero_le _)
      ·exact Nms.nil
   ·rename_i h3
    rw [if_neg h3] at h
    exact Nms.kinds hs.fin hs.com (by omega) hm hsrc h
end
def Few (c:Cfg) (l:List Msg):Prop:=l.length≤c.n+1
section
variable {c:Cfg} {draw:Int} {s:Nd} {m:Msg}
theorem Few.nil:Few c []:=Nat.zero_le _
theorem Few.one {x:Msg}:Few c [x]:=Nat.succ_le_succ (Nat.zero_le _)
theorem Few.map {f:Nat→Msg} {id:Nat}:Few c ((others c id).map f):=by
 unfold Few
 rw [List.length_map]
 exact Nat.le_succ_of_le (others_len c id)
theorem Few.apps:Few c (apps c s):=Few.map
theorem Few.lead:Few c (lead c s).2:=Few.apps
theorem Few.stand:Few c (stand c draw s).2:=by
 unfold Rf.stand
 simp only
 split
 ·exact Few.lead
 ·exact Few.map
theorem Few.begin:Few c (begin_ c draw s).2:=by
 unfold begin_
 simp only
 split
 ·exact Few.nil
 ·split
  ·exact Few.stand
  ·exact Few.map
theorem Few.tick:Few c (tick c draw s).2:=by
 unfold Rf.tick
 simp only
 split
 ·split
  ·exact Few.begin
  ·exact Few.nil
 ·split
  ·exact Few.nil
  ·split
   ·split
    ·exact Few.apps
    ·exact Few.nil
   ·split
    ·exact Few.apps
    ·exact Few.nil
theorem Few.propose {l:List (List Int)}:Few c (propose c l s).2:=Few.apps
theorem Few.old:Few c (old m s):=by
 unfold Rf.old
 split
 ·exact Few.one
 ·split
  ·exact Few.one
  ·split
   ·exact Few.one
   ·exact Few.nil
theorem Few.kinds:Few c (kinds c draw m s).2:=by
 unfold Rf.kinds
 split
 ·unfold preVote
  split <;> exact Few.one
 ·unfold preReply
  split
  ·exact Few.nil
  ·simp only
   split
   ·exact Few.stand
   ·exact Few.nil
 ·unfold vote
  split <;> exact Few.one
 ·unfold voteReply
  split
  ·exact Few.nil
  ·split
   ·simp only
    split
    ·exact Few.lead
    ·exact Few.nil
   ·simp only
    generalize (if m.src∈s.gr then s else { s with rf:=put s.rf m.src })=s1
    split <;> exact Few.nil
 ·unfold append
  simp only
  split
  ·exact Few.one
  ·split
   ·exact Few.one
   ·split
    ·exact Few.one
    ·exact Few.one
 ·unfold appendReply
  split
  ·exact Few.nil
  ·simp only
   split
   ·split
    ·exact Few.one
    ·exact Few.nil
   ·split
    ·split
     ·exact Few.apps
     ·split
      ·exact Few.one
      ·exact Few.nil
    ·exact Few.nil
 ·exact Few.nil
theorem Few.message:Few c (message c draw m s).2:=by
 unfold Rf.message
 split
 ·exact Few.nil
 ·split
  ·exact Few.kinds
  ·split
   ·exact Few.old
   ·exact Few.kinds
end
section
variable {c:Cfg} {g:Gh} {nd:Nat→Nd} {net:List Msg}
theorem net_psi:net.length≤psi c g nd net:=by
 unfold psi
 have:net.length≤(net.map (wt g nd)).sum:=by
  induction net with
  | nil=>exact Nat.le_refl _
  | cons a l ih =>
   have:=wt_pos (g:=g) (nd:=nd) a
   simp only [List.length_cons,List.map_cons,List.sum_cons]
   omega
 omega
theorem run_succ (d:Nat→Int) (k:Nat) (w:Wd):w.run c d (k+1)=(w.run c d k).arr c d:=by
 rw [run_add c d k 1 w];rfl
theorem tks_succ (d:Nat→Int) (k:Nat) (w:Wd):w.tks c d (List.range' 1 (k+1))=(w.tks c d (List.range' 1 k)).tk c d (k+1):=by
 rw [List.range'_concat,Wd.tks,Wd.tks,List.foldl_append]
 show Wd.tk c d _ (1+1*k)=_
 rw [Nat.one_mul,Nat.add_comm 1 k]
end
def MQ (L T:Nat) (lg:List Ent) (out:List Nat) (m:Msg):Prop :=
 (m.kind=1∧m.src∈out∧m.term=T+1)∨(m.kind=2∧m.src∈out∧T≤m.term∧(m.rej=true→m.term=T))∨(m.kind=5∧m.src=L∧m.term=T∧m.es=[]∧m.idx=lg.length)∨(m.kind=6∧m.dst=L∧m.term=T∧(m.src ∉ out→m.rej=false))
structure Qt (c:Cfg) (L T:Nat) (lg:List Ent) (out:List Nat) (nd:Nat→Nd) (net:List Msg):Prop where
 Lr:(nd L).role=4∧(nd L).term=T∧(nd L).log=lg
 Lo:L ∉ out
 mt:∀ p,1≤p→p≤c.n→p≠L→(nd L).mt p=lg.length
 pre:∀ p,1≤p→p≤c.n→lg.length≤(nd p).log.length∧(nd p).log.take lg.length=lg
 fo:∀ p,1≤p→p≤c.n→p≠L→p ∉ out→(nd p).role=1∧(nd p).term=T∧(nd p).leader=L
 ou:∀ p,p∈out→(1≤p∧p≤c.n)∧(nd p).term=T∧((nd p).role=1∨((nd p).role=2∧∀ q,q∈(nd p).gr→q∈out))
 msg:∀ m,m∈net→MQ L T lg out m
 few:2*out.length<c.n
structure Came (out:List Nat) (L:Nat) (m:Msg) (s:Nd) (y:Nd×List Msg):Prop where
 one:y.2.length≤1
 ins:∀ x,x∈y.2→x.src ∉ out→x.dst ∉ out→m.kind=5∧m.dst ∉ out∧x.kind=6
 lead:m.dst=L→y.1.beat=s.beat∧y.1.elapsed=s.elapsed∧∀ p,p∈s.hd→p∈y.1.hd
 el:m.dst≠L→m.dst ∉ out→y.1.elapsed=s.elapsed∨y.1.elapsed=0
 el5:m.kind=5→m.dst ∉ out→y.1.elapsed=0∧∃ x,x∈y.2∧x.kind=6∧x.src=m.dst
 hd6:m.kind=6→m.src∈y.1.hd
section
variable {n:Nat} {nd:Nat→Nd} {g g':Gh} {net net':List Msg} {L T i K:Nat} {s s':Nd} {c:Cfg} {draw:Int} {m x:Msg} {w w':Wd} {lg:List Ent} {out:List Nat} {y:Nd×List Msg}
theorem Qt.turn (h:Qt c L T lg out nd net) (hlog:s'.log=(nd i).log) (hL:i=L→s'.role=4∧s'.term=T∧∀ p,s'.mt p=(nd i).mt p)
  (hf:i≠L→i ∉ out→s'.role=1∧s'.term=T∧s'.leader=L) (ho:i∈out→s'.term=T∧(s'.role=1∨(s'.role=2∧∀ q,q∈s'.gr→q∈out))) (hm:∀ m,m∈net'→MQ L T lg out m):Qt c L T lg out (setN nd i s') net':=by
 refine ⟨?_,h.Lo,fun p h1 h2 h3=>?_,fun p h1 h2=>?_,fun p h1 h2 h3 h4=>?_,fun p hp=>?_,hm,h.few⟩
 ·by_cases e:L=i
  ·rw [e,setN_at]
   obtain ⟨a,b,_⟩:=hL e.symm
   exact ⟨a,b,by rw [hlog,←e];exact h.Lr.2.2⟩
  ·rw [setN_ne _ _ e];exact h.Lr
 ·by_cases e:L=i
  ·rw [e,setN_at]
   obtain ⟨_,_,a⟩:=hL e.symm
   rw [a,←e];exact h.mt p h1 h2 h3
  ·rw [setN_ne _ _ e];exact h.mt p h1 h2 h3
 ·by_cases e:p=i
  ·rw [e,setN_at,hlog,←e];exact h.pre p h1 h2
  ·rw [setN_ne _ _ e];exact h.pre p h1 h2
 ·by_cases e:p=i
  ·subst e;rw [setN_at];exact hf h3 h4
  ·rw [setN_ne _ _ e];exact h.fo p h1 h2 h3 h4
 ·by_cases e:p=i
  ·subst e;rw [setN_at];exact ⟨(h.ou p hp).1,ho hp⟩
  ·rw [setN_ne _ _ e];exact h.ou p hp
theorem setN_id (nd:Nat→Nd) (i:Nat):setN nd i (nd i)=nd:=by
 funext j
 by_cases e:j=i
 ·rw [e,setN_at]
 ·rw [setN_ne _ _ e]
theorem Qt.sub (h:Qt c L T lg out nd net) (hm:∀ m,m∈net'→MQ L T lg out m):Qt c L T lg out nd net':=⟨h.Lr,h.Lo,h.mt,h.pre,h.fo,h.ou,hm,h.few⟩
theorem Qt.term (h:Qt c L T lg out nd net) (p:Nat) (h1:1≤p) (h2:p≤c.n):(nd p).term=T:=by
 by_cases e:p=L
 ·rw [e];exact h.Lr.2.1
 ·by_cases o:p∈out
  ·exact (h.ou p o).2.1
  ·exact (h.fo p h1 h2 e o).2.1
theorem Qt.still (h:Qt c L T lg out nd net) (hy:y=(nd m.dst,[])) (h5:m.kind≠5) (h6:m.kind≠6):(∀ net',(∀ x,x∈net'→x∈net∨x∈y.2)→Qt c L T lg out (setN nd m.dst y.1) net')∧Came out L m (nd m.dst) y:=by
 subst hy
 refine ⟨fun net' hn=>?_,⟨Nat.zero_le _,fun x hx=>absurd hx (by simp),fun _=>⟨rfl,rfl,fun _ h=>h⟩,fun _ _=>.inl rfl,fun h=>absurd h h5,fun h=>absurd h h6⟩⟩
 show Qt c L T lg out (setN nd m.dst (nd m.dst)) net'
 rw [setN_id]
 exact h.sub fun x hx=>h.msg x ((hn x hx).elim id fun h=>absurd h (by simp))
theorem Qt.come (h:Qt c L T lg out nd net) (hI:Inv c.n nd net g) (hS:∀ i,Soft c (nd i)) (hm:m∈net) (hled:m.kind=1→m.dst ∉ out→led c (nd m.dst)=true) :
  (∀ net',(∀ x,x∈net'→x∈net∨x∈(message c draw m (nd m.dst)).2)→Qt c L T lg out (setN nd m.dst (message c draw m (nd m.dst)).1) net')∧Came out L m (nd m.dst) (message c draw m (nd m.dst)):=by
 have hM:=(hI.msgs m hm).1
 have hid:=hI.ids m.dst
 have ht:=h.term m.dst hM.rng.2.1 hM.rng.2.2
 rcases h.msg m hm with ⟨k1,k2,k3⟩ | ⟨k1,k2,k3,k4⟩ | ⟨k1,k2,k3,k4,k5⟩ | ⟨k1,k2,k3,k4⟩
 ·
  by_cases hl:led c (nd m.dst)=true
  ·exact h.still (by unfold message;rw [if_pos ⟨.inl k1,by omega,hl⟩]) (by omega) (by omega)
  ·have ho:m.dst∈out:=Classical.byContradiction fun hn=>hl (hled k1 hn)
   have hy:message c draw m (nd m.dst)=preVote m (nd m.dst):=by
    unfold message
    rw [if_neg (fun h=>hl h.2.2),if_neg (by omega),if_neg (by omega)]
    unfold kinds
    simp only [k1]
   have hy2:∃ t r,message c draw m (nd m.dst)=(nd m.dst,[re (nd m.dst) m 2 t 0 r 0])∧T≤t∧(r=true→t=T):=by
    rw [hy]
    unfold preVote
    split
    ·exact ⟨_,_,rfl,by omega,fun h=>absurd h (by decide)⟩
    ·exact ⟨_,_,rfl,by omega,fun _=>ht⟩
   obtain ⟨t,r,e,e1,e2⟩:=hy2
   rw [e]
   have hsrc:(re (nd m.dst) m 2 t 0 r 0).src∈out:=by show (nd m.dst).id∈out;rw [hid];exact ho
   refine ⟨fun net' hn=>?_,⟨Nat.le_refl _,fun x hx hx1=>?_,fun e=>absurd ho (e▸h.Lo),fun _ h=>absurd ho h,fun h=>by omega,fun h=>by omega⟩⟩
   ·show Qt c L T lg out (setN nd m.dst (nd m.dst)) net'
    rw [setN_id]
    refine h.sub fun x hx=>(hn x hx).elim (h.msg x) fun hx=>?_
    obtain rfl:=List.mem_singleton.1 hx
    exact .inr (.inl ⟨rfl,hsrc,e1,e2⟩)
   ·obtain rfl:=List.mem_singleton.1 hx
    exact absurd hsrc hx1
 ·
  have hy:message c draw m (nd m.dst)=preReply c draw m (nd m.dst):=by
   unfold message
   rw [if_neg (by omega),if_neg (fun h=>by
    obtain ⟨a,b,c⟩:=h
    rcases c with c | c
    ·exact c k1
    ·have:=k4 c;omega),if_neg (by omega)]
   unfold kinds
   simp only [k1]
  by_cases hr:(nd m.dst).role≠2∨m.rej=true∨m.term≠(nd m.dst).term+1
  ·exact h.still (by rw [hy];unfold preReply;rw [if_pos hr]) (by omega) (by omega)
  ·have hr2:(nd m.dst).role=2:=by omega
   have ho:m.dst∈out:=Classical.byContradiction fun hn=>by
    by_cases e:m.dst=L
    ·have:=h.Lr.1;rw [e] at hr2;omega
    ·have:=(h.fo m.dst hM.rng.2.1 hM.rng.2.2 e hn).1;omega
   have hg:∀ q,q∈put (nd m.dst).gr m.src→q∈out:=fun q hq=>by
    rcases mem_put.1 hq with h1 | h1
    ·rcases (h.ou _ ho).2.2 with h2 | ⟨_,h2⟩
     ·omega
     ·exact h2 q h1
    ·rw [h1];exact k2
   have hnd:(put (nd m.dst).gr m.src).Nodup:=by
    have:=((hS m.dst).gr2 hr2).1
    unfold put
    split
    ·exact this
    ·rename_i hn
     exact List.nodup_append.2 ⟨this,by simp,fun a ha b hb e=>hn (by obtain rfl:=List.mem_singleton.1 hb;rw [←e];exact ha)⟩
   have hle:=nodup_le hnd hg
   have hfew:=h.few
   have hmj:¬ (maj c (put (nd m.dst).gr m.src).length=true):=by
    unfold maj
    simp only [decide_eq_true_eq]
    omega
   have e:message c draw m (nd m.dst)=({ (nd m.dst) with gr:=put (nd m.dst).gr m.src },[]):=by
    rw [hy]
    unfold preReply
    rw [if_neg hr]
    simp only
    rw [if_neg hmj]
   rw [e]
   refine ⟨fun net' hn=>?_,⟨Nat.zero_le _,fun x hx=>absurd hx (by simp),fun e=>absurd ho (e▸h.Lo),fun _ h=>absurd ho h,fun h=>by omega,fun h=>by omega⟩⟩
   exact h.turn (s':={ (nd m.dst) with gr:=put (nd m.dst).gr m.src }) rfl (fun e=>absurd ho (e▸h.Lo)) (fun _ hn=>absurd ho hn) (fun _=>⟨ht,.inr ⟨hr2,hg⟩⟩) fun x hx=>h.msg x ((hn x hx).elim id fun h=>absurd h (by simp))
 ·
  have hne:m.dst≠L:=by rw [←k2];exact hM.form.ne.symm
  have hp:=h.pre m.dst hM.rng.2.1 hM.rng.2.2
  have hll:=(hI.lead L h.Lr.1).2.1
  rw [h.Lr.2.1,h.Lr.2.2] at hll
  have hlt:=(hM.app k1).2.2.1
  rw [k3,hll,k5] at hlt
  have htm:(nd m.dst).tm m.idx=m.lt:=by
   rw [hlt,k5,tm_eq]
   unfold tmL
   by_cases h0:lg.length=0
   ·rw [if_pos h0,if_pos h0]
   ·rw [if_neg h0,if_neg h0]
    have:=getElem?_of_take (l:=(nd m.dst).log) (l':=lg) (c:=lg.length) (j:=lg.length) (by rw [hp.2,List.take_length]) (by omega) (Nat.le_refl _)
    rw [this]
  have hy:message c draw m (nd m.dst)=append c draw m (nd m.dst):=by
   unfold message
   rw [if_neg (by omega),if_neg (by omega),if_neg (by omega)]
   unfold kinds
   simp only [k1]
  have hft:(follow c draw m.term m.src (nd m.dst)).term=T:=by show max (nd m.dst).term m.term=T;omega
  have hy2:∃ cm j,message c draw m (nd m.dst)=({ (follow c draw m.term m.src (nd m.dst)) with commit:=cm },[re (follow c draw m.term m.src (nd m.dst)) m 6 (follow c draw m.term m.src (nd m.dst)).term j false 0]):=by
   rw [hy]
   unfold append
   simp only
   split
   ·exact ⟨_,_,rfl⟩
   ·rw [if_neg (by show ¬ ((nd m.dst).log.length<m.idx);omega),if_neg (by show ¬ ((nd m.dst).tm m.idx≠m.lt);omega),k4]
    exact ⟨max (follow c draw m.term m.src (nd m.dst)).commit (min m.commit m.idx),m.idx,rfl⟩
  obtain ⟨cm,j,e⟩:=hy2
  rw [e]
  have hid2:(re (follow c draw m.term m.src (nd m.dst)) m 6 (follow c draw m.term m.src (nd m.dst)).term j false 0).src=m.dst:=hid
  refine ⟨fun net' hn=>?_,⟨Nat.le_refl _,fun x hx hx1 _=>?_,fun e=>absurd e hne,fun _ _=>.inr rfl,fun _ _=>⟨rfl,_,List.mem_singleton.2 rfl,rfl,hid2⟩,fun h=>by omega⟩⟩
  ·refine h.turn (s':={ (follow c draw m.term m.src (nd m.dst)) with commit:=cm }) rfl (fun e=>absurd e hne) (fun _ _=>⟨rfl,?_,k2⟩) (fun _=>⟨?_,.inl rfl⟩) fun x hx=>(hn x hx).elim (h.msg x) fun hx=>?_
   ·show max (nd m.dst).term m.term=T;omega
   ·show max (nd m.dst).term m.term=T;omega
   ·obtain rfl:=List.mem_singleton.1 hx
    exact .inr (.inr (.inr ⟨rfl,k2,hft,fun _=>rfl⟩))
  ·obtain rfl:=List.mem_singleton.1 hx
   exact ⟨k1,by rw [←hid2];exact hx1,rfl⟩
 ·
  have hne:m.src≠L:=by rw [←k2];exact hM.form.ne
  have hL:=h.Lr
  have hmt:=h.mt m.src hM.rng.1.1 hM.rng.1.2 hne
  have hfin:(nd L).fin=lg.length:=by unfold Nd.fin;rw [hL.2.2]
  have hrc:=reply_cases (c:=c) (draw:=draw) (s:=nd L) k1 hL.1 (by rw [hL.2.1,k3])
  have hidL:=hI.ids L
  rw [k2]
  have hput:∀ p,p∈(nd L).hd→p∈put (nd L).hd m.src:=fun p hp=>mem_put.2 (.inl hp)
  have hsrc:m.src∈put (nd L).hd m.src:=mem_put.2 (.inr rfl)
  by_cases hj:m.rej=true
  ·have ho:m.src∈out:=Classical.byContradiction fun hn=>by rw [k4 hn] at hj;exact absurd hj (by decide)
   rw [if_pos hj] at hrc
   by_cases hx:m.idx+1=(nd L).nx m.src
   ·rw [if_pos hx] at hrc
    rw [hrc]
    have hnx:upd (nd L).nx m.src (min (max ((nd L).mt m.src) m.hint+1) ((nd L).fin+1)) m.src=lg.length+1:=by rw [upd_at,hfin,hmt];omega
    refine ⟨fun net' hn=>?_,⟨Nat.le_refl _,fun x hx _ hx2=>?_,fun _=>⟨rfl,rfl,hput⟩,fun e=>absurd k2 e,fun h=>by omega,fun _=>hsrc⟩⟩
    ·refine h.turn (i:=L) (s':={ (nd L) with hd:=put (nd L).hd m.src,nx:=upd (nd L).nx m.src (min (max ((nd L).mt m.src) m.hint+1) ((nd L).fin+1)) }) rfl (fun _=>⟨hL.1,hL.2.1,fun _=>rfl⟩) (fun e=>absurd rfl e) (fun e=>absurd e h.Lo) fun x hx=>(hn x hx).elim (h.msg x) fun hx=>?_
     obtain rfl:=List.mem_singleton.1 hx
     refine .inr (.inr (.inl ⟨rfl,hidL,hL.2.1,?_,?_⟩))
     ·show ((nd L).log.drop (upd (nd L).nx m.src (min (max ((nd L).mt m.src) m.hint+1) ((nd L).fin+1)) m.src-1)).take c.batch=[]
      rw [hnx,hL.2.2,List.drop_of_length_le (by omega)];simp
     ·show upd (nd L).nx m.src (min (max ((nd L).mt m.src) m.hint+1) ((nd L).fin+1)) m.src-1=lg.length
      rw [hnx];rfl
    ·obtain rfl:=List.mem_singleton.1 hx
     exact absurd ho hx2
   ·rw [if_neg hx] at hrc
    rw [hrc]
    refine ⟨fun net' hn=>?_,⟨Nat.zero_le _,fun x hx=>absurd hx (by simp),fun _=>⟨rfl,rfl,hput⟩,fun e=>absurd k2 e,fun h=>by omega,fun _=>hsrc⟩⟩
    exact h.turn (i:=L) (s':={ (nd L) with hd:=put (nd L).hd m.src }) rfl (fun _=>⟨hL.1,hL.2.1,fun _=>rfl⟩) (fun e=>absurd rfl e) (fun e=>absurd e h.Lo) fun x hx=>h.msg x ((hn x hx).elim id fun h=>absurd h (by simp))
  ·have hidx:=hI.right6 hm k1 (by rw [k2,hL.2.1,k3]) (by rw [k2];exact hL.1) (by simpa using hj)
   rw [k2,hfin] at hidx
   rw [if_neg hj,if_neg (by omega)] at hrc
   rw [hrc]
   refine ⟨fun net' hn=>?_,⟨Nat.zero_le _,fun x hx=>absurd hx (by simp),fun _=>⟨rfl,rfl,hput⟩,fun e=>absurd k2 e,fun h=>by omega,fun _=>hsrc⟩⟩
   exact h.turn (i:=L) (s':={ (nd L) with hd:=put (nd L).hd m.src }) rfl (fun _=>⟨hL.1,hL.2.1,fun _=>rfl⟩) (fun e=>absurd rfl e) (fun e=>absurd e h.Lo) fun x hx=>h.msg x ((hn x hx).elim id fun h=>absurd h (by simp))
end
def cap (l:List Msg):List Msg:=l.drop (l.length-200)
def Apt (out:List Nat) (m:Msg):Prop:=m.src∈out∨m.dst∈out
instance (out:List Nat) (m:Msg):Decidable (Apt out m):=inferInstanceAs (Decidable (_∨_))
structure Wp (c:Cfg) (L T:Nat) (lg:List Ent) (out:List Nat) (w:Wd):Prop where
 q:Qt c L T lg out w.nd w.net
 el:∀ p,1≤p→p≤c.n→p≠L→p ∉ out→(w.nd p).elapsed≤(w.nd L).beat∨∃ m,m∈w.net∧m.kind=5∧m.dst=p
 hd:(w.nd L).elapsed≤(w.nd L).beat∨∀ p,1≤p→p≤c.n→p≠L→p ∉ out→p∈(w.nd L).hd∨(∃ m,m∈w.net∧m.kind=5∧m.dst=p)∨∃ m,m∈w.net∧m.kind=6∧m.src=p
 len:w.net.length≤200
structure Wq (c:Cfg) (L T:Nat) (lg:List Ent) (out:List Nat) (w:Wd):Prop where
 p:Wp c L T lg out w
 no:∀ m,m∈w.net→Apt out m
def wq (out:List Nat) (m:Msg):Nat:=if Apt out m then 0 else if m.kind=5 then 2 else 1
def wqs (out:List Nat) (l:List Msg):Nat:=(l.map (wq out)).sum
section
variable {n:Nat} {nd nd':Nat→Nd} {g g':Gh} {net net' nn:List Msg} {L T i K k:Nat} {s s':Nd} {c:Cfg} {draw:Int} {m x:Msg} {w w' w0:Wd} {lg:List Ent} {out:List Nat}
theorem cap_sub (h:x∈cap net):x∈net:=List.mem_of_mem_drop h
theorem cap_len:(cap net).length≤200:=by unfold cap;rw [List.length_drop];omega
theorem cap_id (h:net.length≤200):cap net=net:=by unfold cap;rw [show net.length-200=0 by omega];rfl
theorem Wq.el (h:Wq c L T lg out w) {p:Nat} (h1:1≤p) (h2:p≤c.n) (h3:p≠L) (h4:p ∉ out):(w.nd p).elapsed≤(w.nd L).beat:=by
 rcases h.p.el p h1 h2 h3 h4 with a | ⟨m,hm,hk,hd⟩
 ·exact a
 ·exfalso
  rcases h.no m hm with a | a
  ·rcases h.p.q.msg m hm with ⟨b,_⟩ | ⟨b,_⟩ | ⟨_,b,_⟩ | ⟨b,_⟩
   ·omega
   ·omega
   ·rw [b] at a;exact h.p.q.Lo a
   ·omega
  ·rw [hd] at a;exact h4 a
theorem Wq.hd (h:Wq c L T lg out w):(w.nd L).elapsed≤(w.nd L).beat∨∀ p,1≤p→p≤c.n→p≠L→p ∉ out→p∈(w.nd L).hd:=by
 rcases h.p.hd with a | a
 ·exact .inl a
 ·refine .inr fun p h1 h2 h3 h4=>?_
  rcases a p h1 h2 h3 h4 with a | ⟨m,hm,hk,hd⟩ | ⟨m,hm,hk,hd⟩
  ·exact a
  ·exfalso
   rcases h.no m hm with a | a
   ·rcases h.p.q.msg m hm with ⟨b,_⟩ | ⟨b,_⟩ | ⟨_,b,_⟩ | ⟨b,_⟩
    ·omega
    ·omega
    ·rw [b] at a;exact h.p.q.Lo a
    ·omega
   ·rw [hd] at a;exact h4 a
  ·exfalso
   rcases h.no m hm with a | a
   ·rw [hd] at a;exact h4 a
   ·rcases h.p.q.msg m hm with ⟨b,_⟩ | ⟨b,_⟩ | ⟨b,_⟩ | ⟨_,b,_⟩
    ·omega
    ·omega
    ·omega
    ·rw [b] at a;exact h.p.q.Lo a
theorem Wq.led (h:Wq c L T lg out w) (hc:CfgOK c) (hO:Ok c K w g) {p:Nat} (h1:1≤p) (h2:p≤c.n) (h4:p ∉ out):led c (w.nd p)=true:=by
 unfold Rf.led
 by_cases e:p=L
 ·rw [e,h.p.q.Lr.1];rfl
 ·have a:=h.el h1 h2 e h4
  have b:=((hO.soft L).el4 h.p.q.Lr.1).2
  have d:=hc.beat.2
  have f:=(h.p.q.fo p h1 h2 e h4).2.2
  have hL:=hO.inv.rng L (by rw [h.p.q.Lr.1];decide)
  rw [f]
  simp only [Bool.or_eq_true,Bool.and_eq_true,decide_eq_true_eq,bne_iff_ne]
  exact .inr ⟨by omega,by omega⟩
theorem mem_erase_of {l:List Msg} (hx:x∈l) (hk:l[k]?=some m) (hne:x≠m):x∈l.eraseIdx k:=by
 obtain ⟨j,hj,rfl⟩:=List.getElem_of_mem hx
 obtain ⟨hk',rfl⟩:=List.getElem?_eq_some_iff.1 hk
 have hjk:j≠k:=fun e=>hne (by subst e;rfl)
 exact List.mem_eraseIdx_iff_getElem.2 ⟨j,hj,hjk,rfl⟩
theorem wqs_erase {l:List Msg} (hk:l[k]?=some m):wqs out (l.eraseIdx k)+wq out m=wqs out l:=by
 unfold wqs
 induction l generalizing k with
 | nil=>simp at hk
 | cons a l ih =>
  cases k with
  | zero =>
   simp only [List.getElem?_cons_zero,Option.some.injEq] at hk
   subst hk
   simp only [List.eraseIdx_cons_zero,List.map_cons,List.sum_cons]
   omega
  | succ k =>
   simp only [List.getElem?_cons_succ] at hk
   have:=ih hk
   simp only [List.eraseIdx_cons_succ,List.map_cons,List.sum_cons]
   omega
theorem wq_two (x:Msg):wq out x≤2:=by
 unfold wq
 by_cases h:Apt out x
 ·rw [if_pos h];exact Nat.zero_le _
 ·rw [if_neg h]
  by_cases h5:x.kind=5
  ·rw [if_pos h5];exact Nat.le_refl _
  ·rw [if_neg h5];exact Nat.le_succ _
theorem wqs_append (a b:List Msg):wqs out (a++b)=wqs out a+wqs out b:=by unfold wqs;rw [List.map_append,List.sum_append]
theorem wqs_zero {l:List Msg} (h:∀ x,x∈l→Apt out x):wqs out l=0:=by
 unfold wqs
 induction l with
 | nil=>rfl
 | cons a l ih =>
  rw [List.map_cons,List.sum_cons,ih fun x hx=>h x (by simp [hx])]
  unfold wq
  rw [if_pos (h a (by simp))]
theorem wqs_le {l:List Msg} {b:Nat} (h:∀ x,x∈l→wq out x≤b):wqs out l≤l.length*b:=by
 unfold wqs
 exact sum_le_const fun x hx=>h x hx
theorem Wp.step (h:Wp c L T lg out w) (hO:Ok c K w g) (hk:w.net[k]?=some m) (hm:¬ Apt out m) :
  Wp c L T lg out ⟨setN w.nd m.dst (message c draw m (w.nd m.dst)).1,cap (w.net.eraseIdx k++(message c draw m (w.nd m.dst)).2)⟩∧wqs out (cap (w.net.eraseIdx k++(message c draw m (w.nd m.dst)).2))+1≤wqs out w.net:=by
 have hmem:m∈w.net:=List.mem_of_getElem? hk
 have hs:m.src ∉ out:=fun e=>hm (.inl e)
 have hd:m.dst ∉ out:=fun e=>hm (.inr e)
 have hM:=(hO.inv.msgs m hmem).1
 have hkind:m.kind=5∧m.src=L∨m.kind=6∧m.dst=L:=by
  rcases h.q.msg m hmem with ⟨_,a,_⟩ | ⟨_,a,_⟩ | ⟨a,b,_⟩ | ⟨a,b,_⟩
  ·exact absurd a hs
  ·exact absurd a hs
  ·exact .inl ⟨a,b⟩
  ·exact .inr ⟨a,b⟩
 obtain ⟨hq,hC⟩:=h.q.come (draw:=draw) hO.inv hO.soft hmem (fun hk1=>by omega)
 obtain ⟨hk',_⟩:=List.getElem?_eq_some_iff.1 hk
 have hlen:(w.net.eraseIdx k++(message c draw m (w.nd m.dst)).2).length≤200:=by
  have h1:=hC.one
  have h2:=h.len
  rw [List.length_append,List.length_eraseIdx,if_pos hk']
  omega
 rw [cap_id hlen]
 have hL:(setN w.nd m.dst (message c draw m (w.nd m.dst)).1 L).beat=(w.nd L).beat∧(setN w.nd m.dst (message c draw m (w.nd m.dst)).1 L).elapsed=(w.nd L).elapsed∧∀ p,p∈(w.nd L).hd→p∈(setN w.nd m.dst (message c draw m (w.nd m.dst)).1 L).hd:=by
  by_cases e:L=m.dst
  ·have:=hC.lead e.symm
   rw [e,setN_at]
   exact this
  ·rw [setN_ne _ _ e];exact ⟨rfl,rfl,fun _ h=>h⟩
 have hold:∀ x,x∈w.net→x≠m→x∈w.net.eraseIdx k++(message c draw m (w.nd m.dst)).2:=fun x hx hne=>List.mem_append_left _ (mem_erase_of hx hk hne)
 refine ⟨⟨hq _ fun x hx=>(List.mem_append.1 hx).imp List.mem_of_mem_eraseIdx id,fun p h1 h2 h3 h4=>?_,?_,hlen⟩,?_⟩
 ·show (setN w.nd m.dst (message c draw m (w.nd m.dst)).1 p).elapsed≤(setN w.nd m.dst (message c draw m (w.nd m.dst)).1 L).beat∨_
  rw [hL.1]
  by_cases e:p=m.dst
  ·have hk5:m.kind=5:=by
    rcases hkind with a | ⟨_,a⟩
    ·exact a.1
    ·exact absurd (e.trans a) h3
   left
   rw [e,setN_at,(hC.el5 hk5 hd).1]
   exact Nat.zero_le _
  ·rw [setN_ne _ _ e]
   rcases h.el p h1 h2 h3 h4 with a | ⟨x,hx,hx1,hx2⟩
   ·exact .inl a
   ·exact .inr ⟨x,hold x hx (fun e2=>e (by rw [←hx2,e2])),hx1,hx2⟩
 ·show (setN w.nd m.dst (message c draw m (w.nd m.dst)).1 L).elapsed≤(setN w.nd m.dst (message c draw m (w.nd m.dst)).1 L).beat∨_
  rw [hL.1,hL.2.1]
  rcases h.hd with a | a
  ·exact .inl a
  ·refine .inr fun p h1 h2 h3 h4=>?_
   rcases a p h1 h2 h3 h4 with b | ⟨x,hx,hx1,hx2⟩ | ⟨x,hx,hx1,hx2⟩
   ·exact .inl (hL.2.2 p b)
   ·by_cases e:x=m
    ·subst e
     obtain ⟨_,y,hy,hy1,hy2⟩:=hC.el5 hx1 hd
     exact .inr (.inr ⟨y,List.mem_append_right _ hy,hy1,hy2.trans hx2⟩)
    ·exact .inr (.inl ⟨x,hold x hx e,hx1,hx2⟩)
   ·by_cases e:x=m
    ·subst e
     have e2:L=x.dst:=by
      rcases hkind with a | a
      ·omega
      ·exact a.2.symm
     have:=hC.hd6 hx1
     refine .inl ?_
     show p∈(setN w.nd x.dst (message c draw x (w.nd x.dst)).1 L).hd
     rw [e2,setN_at,←hx2]
     exact this
    ·exact .inr (.inr ⟨x,hold x hx e,hx1,hx2⟩)
 ·rw [wqs_append]
  have h1:=wqs_erase (out:=out) hk
  have h2:wq out m=if m.kind=5 then 2 else 1:=by unfold wq;rw [if_neg hm]
  have h3:wqs out (message c draw m (w.nd m.dst)).2+1≤wq out m:=by
   rcases hkind with a | a
   ·rw [h2,if_pos a.1]
    have h4:wqs out (message c draw m (w.nd m.dst)).2≤(message c draw m (w.nd m.dst)).2.length*1:=wqs_le fun x hx=>by
     unfold wq
     split
     ·omega
     ·rename_i h5
      have:=(hC.ins x hx (fun e=>h5 (.inl e)) (fun e=>h5 (.inr e))).2.2
      rw [if_neg (by omega)]
      exact Nat.le_refl _
    have:=hC.one
    omega
   ·rw [wqs_zero fun x hx=>Classical.byContradiction fun h5=>by
     have:=(hC.ins x hx (fun e=>h5 (.inl e)) (fun e=>h5 (.inr e))).1
     omega]
    rw [h2,if_neg (by omega)]
    exact Nat.le_refl _
  omega
theorem Wq.mk' (hq:Qt c L T lg out nd net) (hel:∀ p,1≤p→p≤c.n→p≠L→p ∉ out→(nd p).elapsed≤(nd L).beat) (hhd:(nd L).elapsed≤(nd L).beat∨∀ p,1≤p→p≤c.n→p≠L→p ∉ out→p∈(nd L).hd) (hl:net.length≤200) (hno:∀ m,m∈net→Apt out m):Wq c L T lg out ⟨nd,net⟩ :=
 ⟨⟨hq,fun p h1 h2 h3 h4=>.inl (hel p h1 h2 h3 h4),hhd.imp id fun h p h1 h2 h3 h4=>.inl (h p h1 h2 h3 h4),hl⟩,hno⟩
theorem Wq.come (h:Wq c L T lg out w) (hc:CfgOK c) (hO:Ok c K w g) (hm:m∈w.net) (hn:∀ x,x∈nn→x∈w.net) :
  Wq c L T lg out ⟨setN w.nd m.dst (message c draw m (w.nd m.dst)).1,cap (nn++(message c draw m (w.nd m.dst)).2)⟩:=by
 have hM:=(hO.inv.msgs m hm).1
 obtain ⟨hq,hC⟩:=h.p.q.come (draw:=draw) hO.inv hO.soft hm (fun _ hd=>h.led hc hO hM.rng.2.1 hM.rng.2.2 hd)
 have hsub:∀ x,x∈cap (nn++(message c draw m (w.nd m.dst)).2)→x∈w.net∨x∈(message c draw m (w.nd m.dst)).2:=fun x hx=>(List.mem_append.1 (cap_sub hx)).imp (hn x) id
 have hL:(setN w.nd m.dst (message c draw m (w.nd m.dst)).1 L).beat=(w.nd L).beat∧(setN w.nd m.dst (message c draw m (w.nd m.dst)).1 L).elapsed=(w.nd L).elapsed∧∀ p,p∈(w.nd L).hd→p∈(setN w.nd m.dst (message c draw m (w.nd m.dst)).1 L).hd:=by
  by_cases e:L=m.dst
  ·have:=hC.lead e.symm
   rw [e,setN_at]
   exact this
  ·rw [setN_ne _ _ e];exact ⟨rfl,rfl,fun _ h=>h⟩
 refine Wq.mk' (hq _ hsub) (fun p h1 h2 h3 h4=>?_) ?_ cap_len fun x hx=>?_
 ·rw [hL.1]
  have:=h.el h1 h2 h3 h4
  by_cases e:p=m.dst
  ·rw [e,setN_at]
   rw [e] at this h3 h4
   rcases hC.el h3 h4 with a | a <;> omega
  ·rw [setN_ne _ _ e];exact this
 ·rw [hL.1,hL.2.1]
  exact h.hd.imp id fun a p h1 h2 h3 h4=>hL.2.2 p (a p h1 h2 h3 h4)
 ·rcases hsub x hx with a | a
  ·exact h.no x a
  ·refine Classical.byContradiction fun h5=>?_
   obtain ⟨k5,kd,_⟩:=hC.ins x a (fun e=>h5 (.inl e)) (fun e=>h5 (.inr e))
   rcases h.no m hm with b | b
   ·rcases h.p.q.msg m hm with ⟨d,_⟩ | ⟨d,_⟩ | ⟨_,d,_⟩ | ⟨d,_⟩
    ·omega
    ·omega
    ·rw [d] at b;exact h.p.q.Lo b
    ·omega
   ·exact kd b
theorem Wq.drop (h:Wq c L T lg out w) (hn:∀ x,x∈nn→x∈w.net) (hl:nn.length≤200):Wq c L T lg out ⟨w.nd,nn⟩ :=
 Wq.mk' (h.p.q.sub fun x hx=>h.p.q.msg x (hn x hx)) (fun _ h1 h2 h3 h4=>h.el h1 h2 h3 h4) h.hd hl fun x hx=>h.no x (hn x hx)
theorem Wq.apart (h:Wq c L T lg out w) (hi:i∈out) (hlog:s'.log=(w.nd i).log) (ht:s'.term=T) (hr:s'.role=1∨(s'.role=2∧∀ q,q∈s'.gr→q∈out)) (hn:∀ x,x∈nn→x∈w.net∨(x.kind=1∧x.src∈out∧x.term=T+1)) (hl:nn.length≤200):Wq c L T lg out ⟨setN w.nd i s',nn⟩:=by
 have hLi:L≠i:=fun e=>h.p.q.Lo (e▸hi)
 refine Wq.mk' (h.p.q.turn hlog (fun e=>absurd e.symm hLi) (fun _ e=>absurd hi e) (fun _=>⟨ht,hr⟩) fun x hx=>?_) (fun p h1 h2 h3 h4=>?_) ?_ hl fun x hx=>?_
 ·rcases hn x hx with a | a
  ·exact h.p.q.msg x a
  ·exact .inl a
 ·have hpi:p≠i:=fun e=>h4 (by rw [e];exact hi)
  rw [setN_ne _ _ hpi,setN_ne _ _ hLi]
  exact h.el h1 h2 h3 h4
 ·rw [setN_ne _ _ hLi];exact h.hd
 ·rcases hn x hx with a | a
  ·exact h.no x a
  ·exact .inl a.2.1
theorem Wq.fresh (h:Wq c L T lg out w) (hi:i∈out):Wq c L T lg out ⟨setN w.nd i (fresh c draw i (w.nd i).term (w.nd i).vote (w.nd i).log k),w.net⟩ :=
 h.apart hi rfl (h.p.q.ou i hi).2.1 (.inl rfl) (fun _ hx=>.inl hx) h.p.len
theorem Wq.tick (h:Wq c L T lg out w) (hO:Ok c K w g) (hi:i∈out):Wq c L T lg out ⟨setN w.nd i (Rf.tick c draw (w.nd i)).1,cap (w.net++(Rf.tick c draw (w.nd i)).2)⟩:=by
 obtain ⟨hr,ht,hro⟩:=h.p.q.ou i hi
 have hid:=hO.inv.ids i
 have hfew:=h.p.q.few
 have hpos:0<out.length:=List.length_pos_of_mem hi
 have h4:(w.nd i).role≠4:=by omega
 have hm1:¬ (maj c 1=true):=by unfold maj;simp only [decide_eq_true_eq];omega
 have key:(Rf.tick c draw (w.nd i)).1.log=(w.nd i).log∧(Rf.tick c draw (w.nd i)).1.term=T∧((Rf.tick c draw (w.nd i)).1.role=1∨((Rf.tick c draw (w.nd i)).1.role=2∧∀ q,q∈(Rf.tick c draw (w.nd i)).1.gr→q∈out))∧∀ x,x∈(Rf.tick c draw (w.nd i)).2→x.kind=1∧x.src∈out∧x.term=T+1:=by
  unfold Rf.tick
  simp only
  rw [if_pos h4]
  split
  ·unfold begin_
   simp only
   by_cases hst:stuck (rest c draw { (w.nd i) with elapsed:=(w.nd i).elapsed+1 })=true
   ·rw [if_pos hst]
    exact ⟨rfl,ht,hro,fun x hx=>absurd hx (by simp)⟩
   ·rw [if_neg hst,if_neg hm1]
    refine ⟨rfl,ht,.inr ⟨rfl,fun q hq=>?_⟩,fun x hx=>?_⟩
    ·have hq:q∈[(w.nd i).id]:=hq
     rw [List.mem_singleton.1 hq,hid];exact hi
    ·obtain ⟨p,_,rfl⟩:=List.mem_map.1 hx
     exact ⟨rfl,by show (w.nd i).id∈out;rw [hid];exact hi,by show (w.nd i).term+1=T+1;rw [ht]⟩
  ·exact ⟨rfl,ht,hro,fun x hx=>absurd hx (by simp)⟩
 exact h.apart hi key.1 key.2.1 key.2.2.1 (fun x hx=>(List.mem_append.1 (cap_sub hx)).imp id (key.2.2.2 x)) cap_len
structure Ticked (c:Cfg) (L:Nat) (out:List Nat) (draw:Int) (w0:Wd) (k:Nat) (w:Wd):Prop where
 nd:∀ p,w.nd p=if 1≤p∧p≤k∧p ∉ out then (Rf.tick c draw (w0.nd p)).1 else w0.nd p
 net:w.net=if L≤k then cap (w0.net++(Rf.tick c draw (w0.nd L)).2) else w0.net
theorem Wq.waits (h:Wq c L T lg out w) (hc:CfgOK c) (hO:Ok c K w g) {p:Nat} (h1:1≤p) (h2:p≤c.n) (h3:p≠L) (h4:p ∉ out):Rf.tick c draw (w.nd p)=({ (w.nd p) with elapsed:=(w.nd p).elapsed+1 },[]):=by
 have a:=h.el h1 h2 h3 h4
 have b:=((hO.soft L).el4 h.p.q.Lr.1).2
 have d:=hc.beat.2
 have e:=(hO.soft p).time.1
 exact tick_wait (by rw [(h.p.q.fo p h1 h2 h3 h4).1];decide) (by omega)
theorem Ticked.zero (hL:1≤L):Ticked c L out draw w0 0 w0:=⟨fun p=>by rw [if_neg (by omega)],by rw [if_neg (by omega)]⟩
theorem Ticked.len (ht:Ticked c L out draw w0 k w) (h:Wq c L T lg out w0):w.net.length≤200:=by
 rw [ht.net];split
 ·exact cap_len
 ·exact h.p.len
theorem Ticked.skip (ht:Ticked c L out draw w0 k w) (h:Wq c L T lg out w0) (hk:k+1∈out):Ticked c L out draw w0 (k+1) w:=by
 refine ⟨fun p=>?_,?_⟩
 ·rw [ht.nd p]
  by_cases e:p=k+1
  ·subst e;rw [if_neg (fun a=>a.2.2 hk),if_neg (fun a=>a.2.2 hk)]
  ·by_cases a:1≤p∧p≤k∧p ∉ out
   ·rw [if_pos a,if_pos ⟨a.1,by omega,a.2.2⟩]
   ·rw [if_neg a,if_neg fun b=>a ⟨b.1,by omega,b.2.2⟩]
 ·rw [ht.net]
  have:L≠k+1:=fun e=>h.p.q.Lo (e▸hk)
  by_cases a:L≤k
  ·rw [if_pos a,if_pos (by omega)]
  ·rw [if_neg a,if_neg (by omega)]
theorem Ticked.at_ (ht:Ticked c L out draw w0 k w):w.nd (k+1)=w0.nd (k+1):=by rw [ht.nd,if_neg (by omega)]
theorem Ticked.in_ (ht:Ticked c L out draw w0 k w) (h:Wq c L T lg out w0) (hc:CfgOK c) (hO:Ok c K w0 g) (hk:k+1 ∉ out) (hkn:k+1≤c.n):Ticked c L out draw w0 (k+1) ⟨setN w.nd (k+1) (Rf.tick c draw (w.nd (k+1))).1,cap (w.net++(Rf.tick c draw (w.nd (k+1))).2)⟩:=by
 have hnet:cap (w.net++(Rf.tick c draw (w.nd (k+1))).2)=if L≤k+1 then cap (w0.net++(Rf.tick c draw (w0.nd L)).2) else w0.net:=by
  rw [ht.at_]
  by_cases e:k+1=L
  ·have hn:w.net=w0.net:=by rw [ht.net,if_neg (by omega)]
   rw [hn,if_pos (by omega),e]
  ·have hl:=ht.len h
   rw [h.waits hc hO (by omega) hkn e hk]
   show cap (w.net++[])=_
   rw [List.append_nil,cap_id hl,ht.net]
   by_cases a:L≤k
   ·rw [if_pos a,if_pos (by omega)]
   ·rw [if_neg a,if_neg (by omega)]
 obtain ⟨N,hN⟩:∃ N,N=cap (w.net++(Rf.tick c draw (w.nd (k+1))).2):=⟨_,rfl⟩
 rw [←hN] at hnet ⊢
 refine ⟨fun p=>?_,hnet⟩
 ·show setN w.nd (k+1) (Rf.tick c draw (w.nd (k+1))).1 p=_
  by_cases e:p=k+1
  ·subst e;rw [setN_at,ht.at_,if_pos ⟨by omega,Nat.le_refl _,hk⟩]
  ·rw [setN_ne _ _ e,ht.nd p]
   by_cases a:1≤p∧p≤k∧p ∉ out
   ·rw [if_pos a,if_pos ⟨a.1,by omega,a.2.2⟩]
   ·rw [if_neg a,if_neg fun b=>a ⟨b.1,by omega,b.2.2⟩]
theorem Qt.same (h:Qt c L T lg out nd net) (hs:∀ p,(nd' p).role=(nd p).role∧(nd' p).term=(nd p).term∧(nd' p).log=(nd p).log∧(nd' p).leader=(nd p).leader∧(nd' p).mt=(nd p).mt∧(nd' p).gr=(nd p).gr) (hm:∀ m,m∈net'→MQ L T lg out m):Qt c L T lg out nd' net':=by
 refine ⟨?_,h.Lo,fun p h1 h2 h3=>?_,fun p h1 h2=>?_,fun p h1 h2 h3 h4=>?_,fun p hp=>?_,hm,h.few⟩
 ·obtain ⟨a,b,d,_⟩:=hs L;rw [a,b,d];exact h.Lr
 ·obtain ⟨_,_,_,_,a,_⟩:=hs L;rw [a];exact h.mt p h1 h2 h3
 ·obtain ⟨_,_,a,_⟩:=hs p;rw [a];exact h.pre p h1 h2
 ·obtain ⟨a,b,_,d,_⟩:=hs p;rw [a,b,d];exact h.fo p h1 h2 h3 h4
 ·obtain ⟨a,b,_,_,_,d⟩:=hs p;rw [a,b,d];exact h.ou p hp
theorem Ticked.done (ht:Ticked c L out draw w0 c.n w) (h:Wq c L T lg out w0) (hc:CfgOK c) (hO:Ok c K w0 g):Wp c L T lg out w∧wqs out w.net≤10:=by
 have hLr:=h.p.q.Lr
 have hLn:=hO.inv.rng L (by rw [hLr.1];decide)
 have hid:=hO.inv.ids L
 have hel4:=(hO.soft L).el4 hLr.1
 have hcb:=hc.beat
 have hcm:=hc.most
 have hfew:=h.p.q.few
 obtain ⟨e',h',b',ms,htk,heh,hbo⟩:=tick_lead2 (c:=c) (draw:=draw) hLr.1 fun hm=>by
  rcases h.hd with a | a
  ·omega
  ·have:=all_le (c:=c) (l:=L :: ((w0.nd L).hd++out)) fun q h1 h2=>by
    by_cases hq:q=L
    ·rw [hq];simp
    ·by_cases ho:q∈out
     ·exact List.mem_cons_of_mem _ (List.mem_append_right _ ho)
     ·exact List.mem_cons_of_mem _ (List.mem_append_left _ (a q h1 h2 hq ho))
   rw [List.length_cons,List.length_append] at this
   unfold maj
   exact decide_eq_true (by omega)
 have hL:w.nd L={ (w0.nd L) with elapsed:=e',hd:=h',beat:=b' }:=by rw [ht.nd,if_pos ⟨hLn.1,hLn.2,h.p.q.Lo⟩,htk]
 have hp:∀ p,1≤p→p≤c.n→p≠L→p ∉ out→w.nd p={ (w0.nd p) with elapsed:=(w0.nd p).elapsed+1 }:=fun p h1 h2 h3 h4=>by rw [ht.nd,if_pos ⟨h1,h2,h4⟩,h.waits hc hO h1 h2 h3 h4]
 have hnet:w.net=cap (w0.net++ms):=by rw [ht.net,if_pos hLn.2,htk]
 have hsame:∀ p,(w.nd p).role=(w0.nd p).role∧(w.nd p).term=(w0.nd p).term∧(w.nd p).log=(w0.nd p).log∧(w.nd p).leader=(w0.nd p).leader∧(w.nd p).mt=(w0.nd p).mt∧(w.nd p).gr=(w0.nd p).gr:=fun p=>by
  by_cases e:p=L
  ·rw [e,hL];exact ⟨rfl,rfl,rfl,rfl,rfl,rfl⟩
  ·by_cases a:1≤p∧p≤c.n∧p ∉ out
   ·rw [hp p a.1 a.2.1 e a.2.2];exact ⟨rfl,rfl,rfl,rfl,rfl,rfl⟩
   ·rw [ht.nd,if_neg a];exact ⟨rfl,rfl,rfl,rfl,rfl,rfl⟩
 have hnx:∀ p,1≤p→p≤c.n→p≠L→(w0.nd L).nx p=lg.length+1:=fun p h1 h2 h3=>by
  have a:=hO.inv.nxt L hLr.1 p h3
  have b:=h.p.q.mt p h1 h2 h3
  rw [hLr.2.2] at a
  omega
 have happs:ms=apps c { (w0.nd L) with elapsed:=e',hd:=h',beat:=b' }→(∀ x,x∈ms→MQ L T lg out x∧wq out x≤2)∧(∀ p,1≤p→p≤c.n→p≠L→∃ x,x∈ms∧x.kind=5∧x.dst=p)∧ms.length≤5:=fun e=>by
  subst e
  refine ⟨fun x hx=>?_,fun p h1 h2 h3=>?_,?_⟩
  ·obtain ⟨k5,p,hp,rfl⟩:=mem_apps hx
   obtain ⟨⟨h1,h2⟩,h3⟩:=mem_others.1 hp
   have h3:p≠L:=fun e=>h3 (by rw [e];exact hid.symm)
   refine ⟨.inr (.inr (.inl ⟨rfl,hid,hLr.2.1,?_,?_⟩)),?_⟩
   ·show ((w0.nd L).log.drop ((w0.nd L).nx p-1)).take c.batch=[]
    rw [hnx p h1 h2 h3,hLr.2.2,List.drop_of_length_le (by omega)];simp
   ·show (w0.nd L).nx p-1=lg.length
    rw [hnx p h1 h2 h3];rfl
   ·exact wq_two _
  ·exact ⟨app c { (w0.nd L) with elapsed:=e',hd:=h',beat:=b' } p,List.mem_map.2 ⟨p,mem_others.2 ⟨⟨h1,h2⟩,by show p≠(w0.nd L).id;rw [hid];exact h3⟩,rfl⟩,rfl,rfl⟩
  ·unfold apps
   rw [List.length_map]
   have:=others_len c ({ (w0.nd L) with elapsed:=e',hd:=h',beat:=b' }:Nd).id
   have:=hc.n
   omega
 have hl0:=h.p.len
 have hcap:ms.length≤5→∀ x,x∈ms→x∈w.net:=fun hl x hx=>by
  rw [hnet]
  unfold cap
  rw [List.drop_append_of_le_length (by rw [List.length_append];omega)]
  exact List.mem_append_right _ hx
 have hz:wqs out w0.net=0:=wqs_zero h.no
 have hcs:∀ l:List Msg,wqs out (cap l)≤wqs out l:=fun l=>by
  have:=wqs_append (out:=out) (l.take (l.length-200)) (l.drop (l.length-200))
  rw [List.take_append_drop] at this
  unfold cap;omega
 rcases hbo with ⟨hb,ho⟩ | ⟨hb,hb2,ho⟩
 ·obtain ⟨q1,q2,q3⟩:=happs ho
  have hpend:∀ p,1≤p→p≤c.n→p≠L→∃ x,x∈w.net∧x.kind=5∧x.dst=p:=fun p h1 h2 h3=>by
   obtain ⟨x,a,b⟩:=q2 p h1 h2 h3
   exact ⟨x,hcap q3 x a,b⟩
  refine ⟨⟨h.p.q.same hsame fun x hx=>?_,fun p h1 h2 h3 h4=>.inr (hpend p h1 h2 h3),.inr fun p h1 h2 h3 h4=>.inr (.inl (hpend p h1 h2 h3)),by rw [hnet];exact cap_len⟩,?_⟩
  ·rw [hnet] at hx
   rcases List.mem_append.1 (cap_sub hx) with a | a
   ·exact h.p.q.msg x a
   ·exact (q1 x a).1
  ·have a:=hcs (w0.net++ms)
   rw [wqs_append] at a
   have b:wqs out ms≤ms.length*2:=wqs_le fun x hx=>(q1 x hx).2
   rw [hnet]
   omega
 ·subst ho
  rw [List.append_nil,cap_id hl0] at hnet
  refine ⟨⟨h.p.q.same hsame fun x hx=>h.p.q.msg x (by rw [←hnet];exact hx),fun p h1 h2 h3 h4=>.inl ?_,?_,by rw [hnet];exact hl0⟩,by rw [hnet];omega⟩
  ·have:=h.el h1 h2 h3 h4
   rw [hp p h1 h2 h3 h4,hL]
   show (w0.nd p).elapsed+1≤b'
   omega
  ·rw [hL]
   show e'≤b'∨∀ p,1≤p→p≤c.n→p≠L→p ∉ out→p∈h'∨_
   rcases heh with ⟨y,z⟩ | ⟨y,z⟩
   ·rcases h.hd with a | a
    ·left;omega
    ·right;intro p h1 h2 h3 h4;left;rw [z];exact a p h1 h2 h3 h4
   ·left;omega
theorem Steady.wq (h:Steady c L T lg w.nd) (hO:Ok c K w g) (hn:w.net=[]) (hcm:∀ p,1≤p→p≤c.n→lg.length≤(w.nd p).commit) (hL:L ∉ out) (ho:∀ p,p∈out→1≤p∧p≤c.n) (hfew:2*out.length<c.n):Wq c L T lg out w:=by
 obtain ⟨nd,net⟩:=w
 have hn:net=[]:=hn
 subst hn
 have hI:Inv c.n nd [] g:=hO.inv
 have hll:=(hI.lead L h.Lr.1)
 rw [h.Lr.2.1,h.Lr.2.2] at hll
 have hrng:=hI.rng L (by rw [h.Lr.1];decide)
 refine Wq.mk' ⟨h.Lr,hL,h.mt,fun p h1 h2=>?_,fun p h1 h2 h3 _=>h.pr p h1 h2 h3,fun p hp=>?_,fun m hm=>absurd hm (by simp),hfew⟩ (fun p h1 h2 h3 _=>h.el p h1 h2 h3) ?_ (Nat.zero_le _) fun m hm=>absurd hm (by simp)
 ·have hterm:(nd p).term≤T:=by
   by_cases e:p=L
   ·rw [e];exact Nat.le_of_eq h.Lr.2.1
   ·exact Nat.le_of_eq (h.pr p h1 h2 e).2.1
  obtain ⟨a,b⟩:=hI.commL p hterm (by rw [hll.1];omega)
  rw [hll.2.1] at a b
  have d:lg.length≤(nd p).commit:=hcm p h1 h2
  have e:=(hI.comm p).1
  refine ⟨Nat.le_trans d e,?_⟩
  have h5:=congrArg (List.take lg.length) b
  rw [List.take_take,List.take_take,Nat.min_eq_left d,List.take_length] at h5
  exact h5
 ·have hne:p≠L:=fun e=>hL (e▸hp)
  obtain ⟨h1,h2⟩:=ho p hp
  have:=h.pr p h1 h2 hne
  exact ⟨⟨h1,h2⟩,this.2.1,.inl this.1⟩
 ·rcases h.hd with a | a
  ·exact .inr fun p h1 h2 h3 _=>a p h1 h2 h3
  ·exact .inl a
end
end Go.Proofs.YtocogcgnahbpkaaGreat.Rf
