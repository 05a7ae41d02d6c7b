import Derived.Test.YtocogcgnahbpkaaGreatC20
import Derived.Test.YtocogcgnahbpkaaGreatC34
namespace Go.Proofs.YtocogcgnahbpkaaGreat
open Go.RowKit
theorem app_ents {w:World} {base:Nat} {v1:Value} {qs1 qs2:List (LE×List Int)} {A2:Option Addr} {n2 c2:Nat} {ty:TypeId} (h1:OEnts w base v1 qs1) (h2:OEnts w base (.slice A2 n2 c2) qs2) (hb:base≤w.heap.size) (hl:qs1.length+qs2.length≤200000) :
  ∃ v' w',(Builtin.append_ #[46,46] ty #[v1,.slice A2 n2 c2]).run Tryz.prog w=.ok v' w'∧OEnts w' base v' (qs1++qs2)∧Below base w w':=by
 have hn:=(Own.cap h2.own).1
 subst hn
 obtain ⟨v',w',hrun,hown,hg,hat,_⟩:=run_app (P:=Tryz.prog) w encLE 3 (ty:=ty) (t:=46) base 67 40 Tryz.underlying46 info67 (by omega) len_LE one_LE v1 (qs1.map (·.1)) h1.own w.heap.size A2 c2 (qs2.map (·.1)) (h2.own.row len_LE) (by simp;omega) (by simp;omega) hb
 refine ⟨v',w',hrun,h1.app (rs:=qs2) (fun q hq=>?_) hown hg hat,(Below.refl _ _).grown hg hb (fun j hj=>(h1.own.lt j hj).1)⟩
 obtain ⟨o1,o2,o3⟩:=h2.each q hq
 refine ⟨o1,?_,o3⟩
 cases hk:(Value.slice q.1.A q.1.n q.1.c).ownBlock with
 | none=>exact .inl rfl
 | some k =>
  right
  intro e
  obtain ⟨c1,e1⟩:=o1.typed k hk
  obtain ⟨c2',e2⟩:=h1.own.typed k e.symm
  rw [e1] at e2;injection e2 with e2;injection e2 with _ e2;exact absurd e2 (by decide)
theorem step_hrun {P:Program} {w:World} {ops:Array Oper} {o:Oper} {a:Act} {K:Act→World→Prop} {Q:Exit→Act→World→Prop} {E:Prop} (hgd:o.guard=none) (s x:Operand) (t:TypeId)
  (ho:o.op=.call { callee:=.builtin .append,args:=#[s,x],argTypes:=#[t,t] }) (v1 v2 v':Value) (w':World) (hv:a.eval s=v1) (hx:a.eval x=v2) (hrun:(Builtin.append_ #[t,t] o.type #[v1,v2]).run P w=.ok v' w')
  (h:K (a.put o.dst v') w'):if Region.wanted o (yielded ops a.tmps)=true then Oper.wp P o a w K Q else E:=by
 have hw:Region.wanted o (yielded ops a.tmps)=true:=by simp [Region.wanted,hgd]
 rw [if_pos hw]
 unfold Oper.wp execOp
 simp only [ho,resolve,invoke,builtin,Sem.run_bind,Sem.run_pure,Result.andThen_ok,List.map_toArray,List.map_cons,List.map_nil,hv,hx,hrun]
 exact h
theorem cell_heap' {w w':World} {b:Nat} (h:w'.heap[b]?=w.heap[b]?) (o:Nat):w'.cell? ⟨b,o,none⟩=w.cell? ⟨b,o,none⟩:=by simp only [World.cell?,h]
section
variable {α:Type} {enc:α→List Value} {sz:Nat} {e:TypeId} {w w':World}
theorem OwnO.tail {A:Option Addr} {n c:Nat} {x:α} {xs:List α} (hs:∀ x,(enc x).length=sz) (h:OwnO enc sz e w (.slice A n c) (x :: xs)):OwnO enc sz e w (.slice (if c=1 then A else A.map (·.add (1*sz))) (n-1) (c-1)) xs∧(Value.slice (if c=1 then A else A.map (·.add (1*sz))) (n-1) (c-1)).ownBlock=(Value.slice A n c).ownBlock∧1≤n∧n≤c:=by
 rcases h with ⟨_,h⟩ | ⟨g,off,cap,cur,hv,hg,h1,h2,h3⟩
 ·cases h
 ·injection hv with hA hn hc
  subst hA hn hc
  rw [List.length_cons] at h2 ⊢
  by_cases hc1:c=1
  ·subst hc1
   have h0:xs=[]:=List.eq_nil_of_length_eq_zero (by omega)
   subst h0
   rw [if_pos rfl]
   exact ⟨.inr ⟨g,off,0,cur,rfl,hg,by omega,Nat.le_refl _,by simp⟩,rfl,by omega,h2⟩
  ·rw [if_neg hc1,Option.map_some]
   have hadd:(⟨g,off,none⟩:Addr).add (1*sz)=⟨g,off+sz,none⟩:=by rw [Nat.one_mul,Addr.add_lit]
   rw [hadd]
   refine ⟨.inr ⟨g,off+sz,c-1,cur,by rw [Nat.add_sub_cancel],hg,?_,by omega,fun j u hj=>?_⟩,rfl,by omega,h2⟩
   ·have:c*sz=(c-1)*sz+sz:=by
     obtain ⟨k,rfl⟩:∃ k,c=k+1:=⟨c-1,by omega⟩
     rw [Nat.add_sub_cancel,Nat.succ_mul]
    omega
   ·rw [Nat.add_assoc]
    refine h3 (sz+j) u ?_
    rw [List.flatMap_cons,List.getElem?_append_right (by rw [hs];omega),hs,Nat.add_sub_cancel_left]
    exact hj
end
section
variable {w w' w3 wx wy:World} {S S2:Nat→Prop} {bw x:Nat} {bs:List Nat} {r:Array Value} {g g2:VG} {sg:Nat→SG} {net:List (MR×List (LE×List Int))}
theorem VAt.resend (h:VAt w S bw bs g sg net) (hg:w.grownBy w3 (Value.slice g.nA g.nn g.nc).ownBlock) {A:Option Addr} {m c:Nat} {q:MR×List (LE×List Int)} (hO:OwnO encM 10 59 w3 (.slice A m c) ((net++[q]).map (·.1)))
  (hat:(Value.slice A m c).ownBlock=(Value.slice g.nA g.nn g.nc).ownBlock∨∀ k,(Value.slice A m c).ownBlock=some k→w.heap.size≤k) (hE:EntsS w S q.1.eA q.2∧q.1.en=q.2.length∧q.1.en≤q.1.ec) :
  VAt (w3.setCell ⟨bw,7,none⟩ (.slice A m c)) S bw bs { g with nA:=A,nn:=m,nc:=c } sg (net++[q])∧(∀ i,VG.mut { g with nA:=A,nn:=m,nc:=c } bw bs i→g.mut bw bs i∨w.heap.size≤i)∧Chg (g.mut bw bs) w (w3.setCell ⟨bw,7,none⟩ (.slice A m c)):=by
 have n:=h.vne
 have hk:∀ i,i<w.heap.size→i≠bw→some i≠(Value.slice g.nA g.nn g.nc).ownBlock→(w3.setCell ⟨bw,7,none⟩ (.slice A m c)).heap[i]?=w.heap[i]?:=fun i hi h1 h2=>(Below.heap_setCell _ _ _ _ h1).trans (hg.block i hi h2)
 have hnb:∀ k,(Value.slice g.nA g.nn g.nc).ownBlock=some k→k≠bw:=fun k hk=>(n.nt k hk).1
 have hmu:∀ i,VG.mut { g with nA:=A,nn:=m,nc:=c } bw bs i→g.mut bw bs i∨w.heap.size≤i:=fun i hi=>by
  rcases hi with hi | hi | hi | hi | hi | hi | hi
  ·exact .inl (.inl hi)
  ·exact .inl (.inr (.inl hi))
  ·exact .inl (.inr (.inr (.inl hi)))
  ·exact .inl (.inr (.inr (.inr (.inl hi))))
  ·exact .inl (.inr (.inr (.inr (.inr (.inl hi)))))
  ·exact .inl (.inr (.inr (.inr (.inr (.inr (.inl hi))))))
  ·rcases hat with hat | hat
   ·exact .inl (.inr (.inr (.inr (.inr (.inr (.inr (hat.symm.trans hi)))))))
   ·exact .inr (hat i hi)
 have hs:∀ i,S i→(w3.setCell ⟨bw,7,none⟩ (.slice A m c)).heap[i]?=w.heap[i]?:=fun i hi=>hk i (h.bd i hi) (fun e=>h.st i hi (e▸.inl rfl)) (fun e=>h.st i hi (.inr (.inr (.inr (.inr (.inr (.inr e.symm)))))))
 have hsz:w.heap.size≤(w3.setCell ⟨bw,7,none⟩ (.slice A m c)).heap.size:=by
  simp only [World.setCell,Array.size_modify];exact hg.size
 refine ⟨⟨?_,fun i hi=>Nat.lt_of_lt_of_le (h.bd i hi) hsz,fun i hi hm=>?_,h.peers.keep hs,h.seats.keep hs,h.bl,h.nd,fun j b hj=>⟨(h.seat j b hj).1.keep (hk b (block_lt (h.seat j b hj).1.blk) (fun e=>n.s (e▸List.mem_of_getElem? hj)) fun e=>(n.nt b e.symm).2.1 (List.mem_of_getElem? hj)) hs,(h.seat j b hj).2⟩,
  h.led.same (hk _ h.led.lt n.mL.1 fun e=>(n.nt _ e.symm).2.2.1 rfl),h.voted.same (hk _ h.voted.lt n.mV.1 fun e=>(n.nt _ e.symm).2.2.2.1 rfl),h.known.same (hk _ h.known.lt n.mK.1 fun e=>(n.nt _ e.symm).2.2.2.2.1 rfl),h.tm.same (hk _ h.tm.lt n.mT.1 fun e=>(n.nt _ e.symm).2.2.2.2.2 rfl),h.apart,fun p hp=>⟨(h.kb p hp).1.keep hs,(h.kb p hp).2⟩,?_,fun y hy=>?_⟩,hmu,?_⟩
 ·have h3:=(hg.block bw (block_lt h.wb) (fun e=>hnb bw e.symm rfl)).trans h.wb
  rw [block_setCell h3];rfl
 ·rcases hmu i hm with hm | hm
  ·exact h.st i hi hm
  ·have:=h.bd i hi;omega
 ·refine hO.same fun k hk=>Below.heap_setCell _ _ _ _ ?_
  rcases hat with hat | hat
  ·exact hnb k (hat.symm.trans hk)
  ·have h1:=hat k hk;have h2:=block_lt h.wb;show k≠bw;omega
 ·rcases List.mem_append.1 hy with hy | hy
  ·exact ⟨(h.netE y hy).1.keep hs,(h.netE y hy).2⟩
  ·obtain rfl:=List.mem_singleton.1 hy
   exact ⟨hE.1.keep hs,hE.2⟩
 ·refine (Chg.refl.grown hg fun k hk=>.inl (.inr (.inr (.inr (.inr (.inr (.inr hk))))))).setCell (p:=⟨bw,7,none⟩) (.inl (.inl rfl)) _
structure DV (w wx:World) (S S2:Nat→Prop) (bw:Nat) (bs:List Nat) (x:Nat) (r:Array Value) (g g2:VG) (sg:Nat→SG) (net:List (MR×List (LE×List Int))):Prop where
 at_:VAt wx S2 bw bs g2 sg net
 r:wx.heap[x]?=some (.cells r 80 (0,0))
 chg:Chg (g.mut bw bs) w wx
 x:w.heap.size≤x
 sub:∀ i,S i→S2 i
 sub':∀ i,S2 i→S i∨w.heap.size≤i
 mu:∀ i,g2.mut bw bs i→g.mut bw bs i∨w.heap.size≤i
theorem VAt.notX (h:VAt w S bw bs g sg net) (hr:w.heap[x]?=some (.cells r 80 (0,0))):¬ g.mut bw bs x:=fun hm=>by
 rcases hm with rfl | hm | rfl | rfl | rfl | rfl | hm
 ·exact absurd (ne_typed h.wb hr) (by decide)
 ·obtain ⟨y,hy⟩:=h.blkS hm;exact absurd (ne_typed hy hr) (by decide)
 ·exact h.led.ne hr rfl
 ·exact h.voted.ne hr rfl
 ·exact h.known.ne hr rfl
 ·exact h.tm.ne hr rfl
 ·obtain ⟨cur,hc⟩:=h.netO.typed x hm;exact absurd (ne_typed hc hr) (by decide)
theorem DV.drewN (h:DV w wx S S2 bw bs x r g g2 sg net) (n:Nat):DV w (wx.drewN n) S S2 bw bs x r g g2 sg net:=⟨h.at_.drewN n,h.r,h.chg.drewN n,h.x,h.sub,h.sub',h.mu⟩
theorem DV.below (h:DV w wx S S2 bw bs x r g g2 sg net) (hb:Below wx.heap.size wx wy):DV w wy S S2 bw bs x r g g2 sg net:=⟨h.at_.below hb,(hb.block x (block_lt h.r)).trans h.r,h.chg.below hb,h.x,h.sub,h.sub',h.mu⟩
theorem DV.ge (h:DV w wx S S2 bw bs x r g g2 sg net):w.heap.size≤wx.heap.size:=h.chg.size
theorem DV.more (h:DV w wx S S2 bw bs x r g g2 sg net) (hb:Below wx.heap.size wx wy):DV w wy S (fun i=>S2 i∨(wx.heap.size≤i∧i<wy.heap.size)) bw bs x r g g2 sg net:=by
 have h1:=h.below hb
 refine ⟨h1.at_.mono (fun i hi=>.inl hi) (fun i hi=>hi.elim (h1.at_.bd i) (·.2)) (fun i hi hm=>?_),h1.r,h1.chg,h1.x,fun i hi=>.inl (h.sub i hi),fun i hi=>?_,h.mu⟩
 ·rcases hi with hi | hi
  ·exact h.at_.st i hi hm
  ·have:=h.at_.mutLt i hm;omega
 ·rcases hi with hi | hi
  ·exact h.sub' i hi
  ·right;have:=h.ge;omega
theorem DV.seat {i b:Nat} {y:SG} {o:Nat} {u:Value} (h:DV w wx S S2 bw bs x r g g2 sg net) (hi:bs[i]?=some b) (hy:(scellsG (sg (i+1))).setIfInBounds o u=scellsG y) (hid:y.id=(sg (i+1)).id) (hdl:EntsS wx S2 y.dA y.dl) (hdn:y.dn=y.dl.length) (hdc:y.dn≤y.dc):DV w (wx.setCell ⟨b,o,none⟩ u) S S2 bw bs x r g g2 (setS sg (i+1) y) net:=by
 have hbm:b∈bs:=List.mem_of_getElem? hi
 have hbg:g.mut bw bs b:=.inr (.inl hbm)
 have hxb:x≠b:=fun e=>h.at_.notX h.r (e▸.inr (.inl hbm))
 exact ⟨h.at_.reseat hi (chg1 Chg.refl _) (by rw [block_setCell (h.at_.seat i b hi).1.blk,hy]) (hid.trans (h.at_.seat i b hi).2) hdl hdn hdc,(Below.heap_setCell _ _ _ _ hxb).trans h.r,h.chg.setCell (p:=⟨b,o,none⟩) (.inl hbg) _,h.x,h.sub,h.sub',h.mu⟩
theorem DV.sent (h:DV w wx S S2 bw bs x r g g2 sg net) (hg:wx.grownBy w3 (Value.slice g2.nA g2.nn g2.nc).ownBlock) {A:Option Addr} {m c:Nat} {q:MR×List (LE×List Int)} (hO:OwnO encM 10 59 w3 (.slice A m c) ((net++[q]).map (·.1)))
  (hat:(Value.slice A m c).ownBlock=(Value.slice g2.nA g2.nn g2.nc).ownBlock∨∀ k,(Value.slice A m c).ownBlock=some k→wx.heap.size≤k) (hE:EntsS wx S2 q.1.eA q.2∧q.1.en=q.2.length∧q.1.en≤q.1.ec) :
  DV w (w3.setCell ⟨bw,7,none⟩ (.slice A m c)) S S2 bw bs x r g { g2 with nA:=A,nn:=m,nc:=c } sg (net++[q]):=by
 obtain ⟨h1,h2,h3⟩:=h.at_.resend hg hO hat hE
 refine ⟨h1,(h3.keep (block_lt h.r) (h.at_.notX h.r)).trans h.r,h.chg.trans2 h3 (fun i hi=>h.mu i hi),h.x,h.sub,h.sub',fun i hi=>?_⟩
 rcases h2 i hi with hi | hi
 ·exact h.mu i hi
 ·right;have:=h.ge;omega
theorem DV.lost {q:MR×List (LE×List Int)} (h:DV w wx S S2 bw bs x r g g2 sg (q :: net)):1≤g2.nn∧g2.nn≤g2.nc∧∀ A',A'=(if g2.nc=1 then g2.nA else g2.nA.map (·.add (1*10)))→DV w (wx.setCell ⟨bw,7,none⟩ (.slice A' (g2.nn-1) (g2.nc-1))) S S2 bw bs x r g { g2 with nA:=A',nn:=g2.nn-1,nc:=g2.nc-1 } sg net:=by
 have hO:=h.at_.netO
 rw [List.map_cons] at hO
 obtain ⟨h1,h2,h3,h4⟩:=hO.tail len_M
 refine ⟨h3,h4,fun A' hA'=>?_⟩
 subst hA'
 have hmu:∀ i,VG.mut { g2 with nA:=(if g2.nc=1 then g2.nA else g2.nA.map (·.add (1*10))),nn:=g2.nn-1,nc:=g2.nc-1 } bw bs i→g2.mut bw bs i:=fun i hi=>by
  rcases hi with hi | hi | hi | hi | hi | hi | hi
  ·exact .inl hi
  ·exact .inr (.inl hi)
  ·exact .inr (.inr (.inl hi))
  ·exact .inr (.inr (.inr (.inl hi)))
  ·exact .inr (.inr (.inr (.inr (.inl hi))))
  ·exact .inr (.inr (.inr (.inr (.inr (.inl hi)))))
  ·exact .inr (.inr (.inr (.inr (.inr (.inr (h2.symm.trans hi))))))
 refine ⟨h.at_.renet (chg1 Chg.refl _) (by rw [block_setCell h.at_.wb];rfl) h1 (fun m hm=>h.at_.netE m (List.mem_cons_of_mem _ hm)) (fun k hk hS=>h.at_.st k hS (.inr (.inr (.inr (.inr (.inr (.inr (h2.symm.trans hk)))))))),(Below.heap_setCell _ _ _ _ (fun (e:x=bw)=>h.at_.notX h.r (.inl e))).trans h.r,h.chg.setCell (p:=⟨bw,7,none⟩) (.inl (.inl rfl)) _,h.x,h.sub,h.sub',fun i hi=>h.mu i (hmu i hi)⟩
theorem DV.lost2 {q:MR×List (LE×List Int)} (h:DV w wx S S2 bw bs x r g g2 sg (q :: net)) (hc:1<g2.nn):g2.nn≤g2.nc∧∃ gb off,g2.nA=some ⟨gb,off,none⟩∧DV w (wx.setCell ⟨bw,7,none⟩ (.slice (some ⟨gb,off+10,none⟩) (g2.nn-1) (g2.nc-1))) S S2 bw bs x r g { g2 with nA:=some ⟨gb,off+10,none⟩,nn:=g2.nn-1,nc:=g2.nc-1 } sg net:=by
 obtain ⟨h1,h2,h3⟩:=h.lost
 refine ⟨h2,?_⟩
 rcases h.at_.netO with ⟨_,h⟩ | ⟨gb,off,cap,cur,hv,hg,_⟩
 ·cases h
 ·injection hv with hA _ _
  refine ⟨gb,off,hA,?_⟩
  refine h3 _ ?_
  rw [if_neg (by omega),hA,Option.map_some,Nat.one_mul,Addr.add_lit]
theorem DV.told {i c1 hh h':Nat} {mo:Int} {KO:Nat→E→Int→Prop} {VO:Int×Int→Int→Prop} {LO:Int→Int→Prop} {g3:VG} (h:DV w wx S S2 bw bs x r g g2 sg net) (k:ToldV wx wy S2 bw bs g2 g3 sg net i c1 hh h' mo KO VO LO):DV w wy S S2 bw bs x r g g3 (setS sg (i+1) { sg (i+1) with cm:=(c1:Int),most:=mo }) net:=by
 have hm:∀ j,g3.mut bw bs j→g2.mut bw bs j:=fun j hj=>by rw [k.eq] at hj;exact hj
 exact ⟨k.at_,(k.chg.keep (block_lt h.r) (h.at_.notX h.r)).trans h.r,h.chg.trans2 k.chg (fun j hj=>h.mu j hj),h.x,h.sub,h.sub',fun j hj=>h.mu j (hm j hj)⟩
end
end Go.Proofs.YtocogcgnahbpkaaGreat
