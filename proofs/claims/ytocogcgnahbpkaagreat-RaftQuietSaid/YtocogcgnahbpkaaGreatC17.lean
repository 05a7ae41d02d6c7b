import Derived.Deep.RegionHeld3
import Derived.Deep.AppendLies
import Derived.Test.YtocogcgnahbpkaaGreatC0
import Derived.Test.YtocogcgnahbpkaaGreatC12
import Derived.Test.YtocogcgnahbpkaaGreatC15
import Derived.Test.YtocogcgnahbpkaaGreatC16
namespace Go.Proofs.YtocogcgnahbpkaaGreat
open Go.RowKit
structure Said (w w':World) (F G G':Nat→Prop) (b:Nat) (s:NS) (c c':NC):Prop where
 nd:NdAt w' F G' b s c'
 c:c'={ c with mA:=c'.mA,mn:=c'.mn,mc:=c'.mc,msgs:=c'.msgs }
 chg:Chg (fun i=>i=b∨G i) w w'
 sub:∀ i,G i→G' i
 sub':∀ i,G' i→G i∨w.heap.size≤i
theorem Ents.take {w:World} {B:Nat} {A:Option Addr} {ps:List (LE×List Int)} (h:Ents w B A ps) (n:Nat):Ents w B A (ps.take n):=by
 refine ⟨?_,fun p hp=>h.each p (List.mem_of_mem_take hp)⟩
 rw [List.map_take]
 rcases h.row with h | ⟨b,o,e,hb,hc⟩
 ·exact .inl (by rw [h];simp)
 ·refine .inr ⟨b,o,e,hb,fun k x hk=>hc k x ?_⟩
  rw [List.getElem?_take] at hk
  split at hk
  ·exact hk
  ·cases hk
set_option maxRecDepth 100000 in
set_option maxHeartbeats 2000000 in
theorem sendTo_any (b:Nat) (s:NS) (c:NC) (F G:Nat→Prop) (w:World) (h:NdAt w F G b s c) (p:Int) (k:Nat) (m:Nat) (hm:c.nxR=some m) (hp:okI p) (hk:kget c.nx p=some ((k:Int)+1)) (h0:s.snap=0) (h2:k≤c.log.length) (hl:c.log.length≤65536) (hbt:1≤s.batch∧s.batch≤16) (hml:c.msgs.length≤999) :
  Calls Tryz.prog 110 #[.pointer (some ⟨b,0,none⟩),.int .i64 p] w fun e w'=>e=.returned (.tuple #[])∧∃ G' c' A n q qs,Said w w' F G G' b s c c'∧c'.msgs=c.msgs++[(⟨5,s.id,p,s.term,k,lterm s (c.log.map con) k,s.commit,A,n,q,false,0⟩,qs)]∧qs.map con=((c.log.map con).drop k).take s.batch.toNat:=by
 have HH:=ld h
 have hb:=h.blk
 have hlook:(Instr.lookup 39 (.map (some m)) (.int .i64 p) false).run Tryz.prog w=.ok (.int .i64 ((k:Int)+1)) w:=by
  have hn:=h.rest.nx
  rw [hm] at hn
  have:=MapG.look KI hn.2 Tryz.underlying39 p hp _ zero3
  rw [hk] at this
  exact this
 have c17:w.cell? ⟨b,17,none⟩=some (.map (some m)):=by rw [←hm];exact nc17 hb
 have c9:w.cell? ⟨b,9,none⟩=some (.int .i64 0):=by rw [←h0];exact nc9 hb
 have c8:=nc8 hb
 have hln:=h.rest.log.ents.2
 have hkl:k≤c.ln:=by omega
 have hkc:k≤c.lc:=by omega
 have hkle:decide ((k:Int)+1≤0)=false:=decide_eq_false (by omega)
 have W1:IntKind.i64.wrap ((k:Int)+1-0)=(k:Int)+1:=by rw [IntWalk.i64_in _ (by omega)];omega
 have W1':IntKind.i64.wrap ((k:Int)+1)=(k:Int)+1:=IntWalk.i64_in _ (by omega)
 have W2:IntKind.i64.wrap ((k:Int)+1-1)=(k:Int):=by rw [IntWalk.i64_in _ (by omega)];omega
 have HB:=ld hb
 obtain ⟨bt,hbt'⟩:∃ bt:Nat,s.batch=bt:=⟨s.batch.toNat,by omega⟩
 have c5:w.cell? ⟨b,5,none⟩=some (.int .i64 bt):=by rw [←hbt'];exact nc5 hb
 have hcut:=Ents.cut (k:=k) h.rest.log.ents.1 hkl hln.1 hln.2
 have HLN:=ld hln
 have hkn:c.ln-k≤65536:=by omega
 have HBT:=ld (And.intro hbt hbt')
 have hbt2:bt≤16:=by omega
 clear hb hln hbt hbt'
 go_enter Tryz.func110,Tryz.ntmps110
 go_wp2_with (fail)
 go_quiet (fail)
 generalize hA1:(if c.lc=k then c.lA else c.lA.map (·.add (k*3)))=A1 at hcut ⊢
 have HCUT:=ld hcut
 clear hA1 hcut
 generalize hn1:c.ln-k=n1 at hkn ⊢
 generalize hq1:c.lc-k=q1
 have hnq:n1≤q1:=by have:=HLN.out;omega
 rcases Nat.lt_or_ge bt n1 with hle | hle
 ·have hmin:decide ((n1:Int)≤(bt:Int))=false:=decide_eq_false (by omega)
  have hps:bt=((c.log.drop k).take bt).length:=by rw [List.length_take,List.length_drop];have:=HLN.out;omega
  have hbtk:(((c.log.map con).drop k).take s.batch.toNat)=(((c.log.drop k).take bt).map con):=by
   have e1:s.batch.toNat=bt:=by have:=HBT.out;omega
   rw [e1,List.map_take,List.map_drop]
  have HPS:=ld (And.intro hps hbtk)
  clear hps hbtk
  go_wp2_with (fail)
  have HN1:=ld (HH.out.drewN nq)
  have HE1:Hid (Ents (w.drewN nq) (w.drewN nq).heap.size A1 ((c.log.drop k).take bt)):=ld ⟨(HCUT.out.take bt).row,(HCUT.out.take bt).each⟩
  have HC1:Hid (Chg (fun i=>i=b∨G i) w (w.drewN nq)):=ld (Chg.refl.drewN nq)
  have hsz1:(w.drewN nq).heap.size=w.heap.size:=rfl
  have HS1:=ld hsz1
  clear c5 c8 c9 c17 HCUT HB hlook hsz1 h
  generalize w.drewN nq=W1 at HN1 HE1 HC1 HS1 ⊢
  have HN1D:Hid (NdAt W1.drew F G b s c):=ld (HN1.out.keep (Nat.le_refl _) (fun _ _ _=>rfl))
  have HE1D:Hid (∀ n,Ents (W1.drewN n) (W1.drewN n).heap.size A1 ((c.log.drop k).take bt)):=ld (fun n=>⟨HE1.out.row,HE1.out.each⟩)
  have c11:=nc11 HN1.out.blk
  have hbl:=HN1.out.lt
  have HFB:=ld (show ∀ i,F i→i<W1.heap.size from HN1.out.rest.bdF)
  have W2:IntKind.i64.wrap ((k:Int)+1-1)=(k:Int):=by rw [IntWalk.i64_in _ (by omega)];omega
  have W3:IntKind.i64.wrap (k:Int)=(k:Int):=IntWalk.i64_in _ (by omega)
  refine wp_region_held_drew (S:=fun W:World=>W.cell? ⟨b,11,none⟩=some (.int .i64 s.commit)) (by kernel_rfl) c11 (fun hHeld=>?_)
  refine tks 0 (.pointer (some ⟨b,0,none⟩)) ?_
  refine tks 1 (.int .i64 p) ?_
  refine tks 2 (.int .i64 ((k:Int)+1)) ?_
  refine tks 3 (.int .i64 (k:Int)) ?_
  refine tks 4 (.pointer (some ⟨b,0,none⟩)) ?_
  refine tks 5 (.int .i64 ((k:Int)+1)) ?_
  refine tks 6 (.int .i64 (k:Int)) ?_
  refine tks 8 (.pointer (some ⟨b,0,none⟩)) ?_
  refine tks 9 (.pointer (some ⟨b,0,none⟩)) ?_
  refine tks 10 (.pointer (some ⟨b,11,none⟩)) ?_
  refine tks 11 (.int .i64 s.commit) ?_
  refine tks 12 (.slice A1 bt q1) ?_
  refine rdy 7 fun K hK=>?_
  go_simp
  refine (term_any b s c (k:Int) F G W1.drew HN1D.out (by omega) (by omega) (by omega) (by omega) (by omega)).mono ?_
  rintro e w2 ⟨rfl,nq2,rfl⟩
  go_wp2_with fail
  refine hks hK ?_ fun hHeld=>?_
  ·exact c11
  clear hK K
  refine rdy 13 fun K hK=>?_
  go_simp
  refine (copied_any A1 bt q1 ((c.log.drop k).take bt) (W1.drewN (1+nq2)) (HE1D.out (1+nq2)) HPS.out.1 (by rw [←HPS.out.1];omega)).mono ?_
  rintro e w3 ⟨v3,qs3,rfl,hO3,hq3,hb3⟩
  obtain ⟨A3,k3,rfl⟩:=hO3.own.form
  have hb3':Below W1.heap.size W1 w3:=⟨hb3.os,hb3.tape,hb3.output,hb3.size,hb3.block⟩
  have HN3:=ld (HN1.out.below hb3')
  have c11':=nc11 HN3.out.blk
  have HO3:=ld hO3
  clear hO3
  generalize hn3:(qs3.map (·.1)).length=n3 at HO3 ⊢
  go_wp2_with fail
  refine hks hK ?_ fun hHeld=>?_
  ·exact c11'
  clear hK K
  refine tks 14 (.agg #[.int .i64 5,.int .i64 0,.int .i64 0,.int .i64 0,.int .i64 (k:Int),.int .i64 (lterm s (c.log.map con) k),.int .i64 s.commit,.slice A3 n3 k3,.bool false,.int .i64 0]) ?_
  refine rdy 15 fun K hK=>?_
  go_simp
  refine (send_any b s c F G (fun i=>W1.heap.size≤i∧i<w3.heap.size) w3 HN3.out p ⟨5,0,0,0,k,lterm s (c.log.map con) k,s.commit,A3,n3,k3,false,0⟩ qs3 (HO3.out.entsF (fun i h1 h2=>⟨h1,h2⟩)) (fun i hi hf=>by have:=HFB.out i hf;omega) (fun i hi=>hi.2) (by omega)).mono ?_
  rintro e w4 ⟨rfl,G4,c4,HN4,hm4,hc4,hch4,hG4,hG4'⟩
  have e4:c4.msgs=c4.msgs:=rfl
  have c11'':w4.cell? ⟨b,11,none⟩=some (.int .i64 s.commit):=nc11 HN4.blk
  go_wp2_with fail
  refine hks hK ?_ fun hHeld=>?_
  ·exact c11''
  clear hK K
  refine don ?_
  go_wp2_with fail
  go_end0
  refine ⟨rfl,G4,c4,A3,n3,k3,qs3,⟨HN4,hc4,(HC1.out.below hb3').trans hch4,hG4,fun i hi=>?_⟩,hm4,by rw [hq3,HPS.out.2]⟩
  rcases hG4' i hi with h1 | h1 | h1
  ·exact .inl h1
  ·right;have:=HS1.out;omega
  ·right;have:=HS1.out;have:=hb3'.size;omega
 ·have hmin:decide ((n1:Int)≤(bt:Int))=true:=decide_eq_true (by omega)
  have hps:n1=((c.log.drop k).take n1).length:=by rw [List.length_take,List.length_drop];have:=HLN.out;omega
  have hbtk:(((c.log.map con).drop k).take s.batch.toNat)=(((c.log.drop k).take n1).map con):=by
   have e1:s.batch.toNat=bt:=by have:=HBT.out;omega
   rw [e1,List.map_take,List.map_drop]
   rw [List.take_of_length_le (by rw [List.length_drop,List.length_map];have:=HLN.out;omega),List.take_of_length_le (by rw [List.length_drop,List.length_map];have:=HLN.out;omega)]
  have HPS:=ld (And.intro hps hbtk)
  clear hps hbtk
  go_wp2_with (fail)
  have HN1:=ld (HH.out.drewN nq)
  have HE1:Hid (Ents (w.drewN nq) (w.drewN nq).heap.size A1 ((c.log.drop k).take n1)):=ld ⟨(HCUT.out.take n1).row,(HCUT.out.take n1).each⟩
  have HC1:Hid (Chg (fun i=>i=b∨G i) w (w.drewN nq)):=ld (Chg.refl.drewN nq)
  have hsz1:(w.drewN nq).heap.size=w.heap.size:=rfl
  have HS1:=ld hsz1
  clear c5 c8 c9 c17 HCUT HB hlook hsz1 h
  generalize w.drewN nq=W1 at HN1 HE1 HC1 HS1 ⊢
  have HN1D:Hid (NdAt W1.drew F G b s c):=ld (HN1.out.keep (Nat.le_refl _) (fun _ _ _=>rfl))
  have HE1D:Hid (∀ n,Ents (W1.drewN n) (W1.drewN n).heap.size A1 ((c.log.drop k).take n1)):=ld (fun n=>⟨HE1.out.row,HE1.out.each⟩)
  have c11:=nc11 HN1.out.blk
  have hbl:=HN1.out.lt
  have HFB:=ld (show ∀ i,F i→i<W1.heap.size from HN1.out.rest.bdF)
  have W2:IntKind.i64.wrap ((k:Int)+1-1)=(k:Int):=by rw [IntWalk.i64_in _ (by omega)];omega
  have W3:IntKind.i64.wrap (k:Int)=(k:Int):=IntWalk.i64_in _ (by omega)
  refine wp_region_held_drew (S:=fun W:World=>W.cell? ⟨b,11,none⟩=some (.int .i64 s.commit)) (by kernel_rfl) c11 (fun hHeld=>?_)
  refine tks 0 (.pointer (some ⟨b,0,none⟩)) ?_
  refine tks 1 (.int .i64 p) ?_
  refine tks 2 (.int .i64 ((k:Int)+1)) ?_
  refine tks 3 (.int .i64 (k:Int)) ?_
  refine tks 4 (.pointer (some ⟨b,0,none⟩)) ?_
  refine tks 5 (.int .i64 ((k:Int)+1)) ?_
  refine tks 6 (.int .i64 (k:Int)) ?_
  refine tks 8 (.pointer (some ⟨b,0,none⟩)) ?_
  refine tks 9 (.pointer (some ⟨b,0,none⟩)) ?_
  refine tks 10 (.pointer (some ⟨b,11,none⟩)) ?_
  refine tks 11 (.int .i64 s.commit) ?_
  refine tks 12 (.slice A1 n1 q1) ?_
  refine rdy 7 fun K hK=>?_
  go_simp
  refine (term_any b s c (k:Int) F G W1.drew HN1D.out (by omega) (by omega) (by omega) (by omega) (by omega)).mono ?_
  rintro e w2 ⟨rfl,nq2,rfl⟩
  go_wp2_with fail
  refine hks hK ?_ fun hHeld=>?_
  ·exact c11
  clear hK K
  refine rdy 13 fun K hK=>?_
  go_simp
  refine (copied_any A1 n1 q1 ((c.log.drop k).take n1) (W1.drewN (1+nq2)) (HE1D.out (1+nq2)) HPS.out.1 (by rw [←HPS.out.1];omega)).mono ?_
  rintro e w3 ⟨v3,qs3,rfl,hO3,hq3,hb3⟩
  obtain ⟨A3,k3,rfl⟩:=hO3.own.form
  have hb3':Below W1.heap.size W1 w3:=⟨hb3.os,hb3.tape,hb3.output,hb3.size,hb3.block⟩
  have HN3:=ld (HN1.out.below hb3')
  have c11':=nc11 HN3.out.blk
  have HO3:=ld hO3
  clear hO3
  generalize hn3:(qs3.map (·.1)).length=n3 at HO3 ⊢
  go_wp2_with fail
  refine hks hK ?_ fun hHeld=>?_
  ·exact c11'
  clear hK K
  refine tks 14 (.agg #[.int .i64 5,.int .i64 0,.int .i64 0,.int .i64 0,.int .i64 (k:Int),.int .i64 (lterm s (c.log.map con) k),.int .i64 s.commit,.slice A3 n3 k3,.bool false,.int .i64 0]) ?_
  refine rdy 15 fun K hK=>?_
  go_simp
  refine (send_any b s c F G (fun i=>W1.heap.size≤i∧i<w3.heap.size) w3 HN3.out p ⟨5,0,0,0,k,lterm s (c.log.map con) k,s.commit,A3,n3,k3,false,0⟩ qs3 (HO3.out.entsF (fun i h1 h2=>⟨h1,h2⟩)) (fun i hi hf=>by have:=HFB.out i hf;omega) (fun i hi=>hi.2) (by omega)).mono ?_
  rintro e w4 ⟨rfl,G4,c4,HN4,hm4,hc4,hch4,hG4,hG4'⟩
  have e4:c4.msgs=c4.msgs:=rfl
  have c11'':w4.cell? ⟨b,11,none⟩=some (.int .i64 s.commit):=nc11 HN4.blk
  go_wp2_with fail
  refine hks hK ?_ fun hHeld=>?_
  ·exact c11''
  clear hK K
  refine don ?_
  go_wp2_with fail
  go_end0
  refine ⟨rfl,G4,c4,A3,n3,k3,qs3,⟨HN4,hc4,(HC1.out.below hb3').trans hch4,hG4,fun i hi=>?_⟩,hm4,by rw [hq3,HPS.out.2]⟩
  rcases hG4' i hi with h1 | h1 | h1
  ·exact .inl h1
  ·right;have:=HS1.out;omega
  ·right;have:=HS1.out;have:=hb3'.size;omega
def pmOf (m:MR×List (LE×List Int)):PM:=m.1.pm m.2
def appM (s:NS) (l:List E) (p:Int) (k:Nat):PM:=⟨5,s.id,p,s.term,k,lterm s l k,s.commit,(l.drop k).take s.batch.toNat,false,0⟩
theorem Said.trans {w w1 w2:World} {F G G1 G2:Nat→Prop} {b:Nat} {s:NS} {c c1 c2:NC} (h1:Said w w1 F G G1 b s c c1) (h2:Said w1 w2 F G1 G2 b s c1 c2):Said w w2 F G G2 b s c c2:=by
 refine ⟨h2.nd,?_,h1.chg.trans2 h2.chg fun i hi=>?_,fun i hi=>h2.sub i (h1.sub i hi),fun i hi=>?_⟩
 ·rw [h2.c,h1.c]
 ·rcases hi with hi | hi
  ·exact .inl (.inl hi)
  ·rcases h1.sub' i hi with hi | hi
   ·exact .inl (.inr hi)
   ·exact .inr hi
 ·rcases h2.sub' i hi with hi | hi
  ·exact h1.sub' i hi
  ·right;have:=h1.chg.size;omega
theorem Said.below {w w1 w2:World} {F G G2:Nat→Prop} {b:Nat} {s:NS} {c c2:NC} (hb:Below w.heap.size w w1) (h2:Said w1 w2 F G G2 b s c c2):Said w w2 F G G2 b s c c2 :=
 ⟨h2.nd,h2.c,(Chg.ofBelow hb).trans h2.chg,h2.sub,fun i hi=>by
  rcases h2.sub' i hi with h | h
  ·exact .inl h
  ·right;have:=hb.size;omega⟩
theorem Said.none {w:World} {F G:Nat→Prop} {b:Nat} {s:NS} {c:NC} (h:NdAt w F G b s c):Said w w F G G b s c c:=⟨h,rfl,Chg.refl,fun _ h=>h,fun _ h=>.inl h⟩
set_option maxRecDepth 100000 in
set_option maxHeartbeats 2000000 in
theorem deleteFunc_at (A:Option Addr) (n cp base:Nat) (xs:List Int) (id:Int) (g b:Nat) (w:World) (hown:Own encI 1 3 w base (.slice A n cp) xs) (hl:xs.length≤1000000)
  (h1:w.cell? ⟨g,0,none⟩=some (.pointer (some ⟨b,0,none⟩))) (h2:w.cell? ⟨b,0,none⟩=some (.int .i64 id)) (hne:∀ k,(Value.slice A n cp).ownBlock=some k→g≠k∧b≠k) :
  Calls Tryz.prog 80 #[.slice A n cp,isId g] w fun e w'=>∃ c',e=.returned (.slice A (others id xs).length c')∧Row encI 1 w' w'.heap.size A (others id xs)∧w.grownBy w' (Value.slice A n cp).ownBlock:=by
 obtain ⟨hn,hcap⟩:=Own.cap hown
 subst hn
 have hrow:=hown.row len_I
 by_cases hm:id∈xs
 ·obtain ⟨k0,hk0,hk1,hk2⟩:=ixf_first hm
  have hk0l:k0<xs.length:=(List.getElem?_eq_some_iff.1 hk1).1
  rcases hown.2 with ⟨_,h0⟩ | ⟨ga,cap,cur,hv,_,hg,hnc,hcm,hcs,htk⟩
  ·omega
  injection hv with hA _ hc
  subst hA hc
  obtain ⟨hga,hba⟩:=hne ga rfl
  have hcur:∀ (t:Nat) (x:Int),xs[t]?=some x→cur[t]?=some (.int .i64 x):=by
   intro t x ht
   have:=flat_at len_I xs t 0 x ht (by omega)
   rw [←htk] at this
   simp only [Nat.mul_one,Nat.add_zero,encI] at this
   rw [List.getElem?_take] at this
   have htl:t<xs.length:=(List.getElem?_eq_some_iff.1 ht).1
   rw [if_pos htl] at this
   simpa using this
  have hstart:DInv w w ga xs.length cp id xs (k0+1) k0 cur:=by
   have ho:others id (xs.take (k0+1))=xs.take k0:=by rw [others_take_snoc id xs k0 id hk1,others_take_first id xs k0 hk2];simp
   refine ⟨hg,by simpa using hcs,by rw [ho];simp;omega,by omega,fun t x ht=>?_,fun t x _ ht=>hcur t x ht,World.grownBy.refl _ _⟩
   rw [ho,List.getElem?_take] at ht
   split at ht
   ·exact hcur t x ht
   ·cases ht
  have HK:=ld hk0
  have HH:=ld hstart
  have hk0b:((k0:Int)==-1)=false:=by rw [beq_eq_false_iff_ne];omega
  clear hk0 hk1 hk2 hstart hcur htk hcs hcm
  go_enter Tryz.func80,Tryz.ntmps80
  go_wp2_with (go_at_call 111;refine (indexFunc_any _ _ cp xs id g b _ hrow rfl hl h1 h2).mono ?_;rintro e w' ⟨rfl,rfl⟩;rw [HK.out])
  go_loopw [5,6,7] (fun i j _ wr=>∃ (jn iN:Nat) (cu:Array Value),j=.int .i64 jn∧i=.int .i64 iN∧jn≤xs.length∧DInv w' wr ga xs.length cp id xs jn iN cu) (fun _ j _ _=>xs.length-(intOf j).toNat)
  case atStart=>exact ⟨k0+1,k0,cur,by go_num,rfl,by omega,HH.out⟩
  case round =>
   obtain ⟨jn,iN,cu,rfl,rfl,hjn,hI⟩:=hrel
   have hblk:=hI.blk
   have hcsz:=hI.size
   have hilt:=hI.lt
   have c1:wr.cell? ⟨g,0,none⟩=some (.pointer (some ⟨b,0,none⟩)):=hI.grown.cell h1 (by simp;exact hga)
   have c2:wr.cell? ⟨b,0,none⟩=some (.int .i64 id):=hI.grown.cell h2 (by simp;exact hba)
   have hf:=frozen_block hblk
   by_cases hlt:jn<xs.length
   ·have hxj:=List.getElem?_eq_getElem hlt
    have cj:=cell_block hblk jn _ (hI.back jn _ (Nat.le_refl _) hxj)
    have HX:=ld hxj
    have HI:=ld hI
    have HB:=ld hblk
    clear hxj hI hblk
    generalize xs[jn]=y at cj HX
    by_cases hy:y=id
    ·have hyb:(y==id)=true:=by simpa using hy
     go_wp2_with (go_at_call 81;refine (isId_any _ _ g b _ c1 c2).mono ?_;rintro e w1 ⟨rfl,rfl⟩)
     subst hy
     have HS:=ld (HI.out.skip HX.out)
     go_roundw
     case rel=>exact ⟨jn+1,iN,cu,by go_num,rfl,by omega,HS.out⟩
     case measure=>simp [intOf];omega
    ·have hyb:(y==id)=false:=by simpa using hy
     have HP:=ld (HI.out.put HX.out hy (by omega))
     have ci:=cell_block HB.out iN
     have hcs2:=hcsz
     obtain ⟨vi,hvi⟩:∃ vi,cu[iN]?=some vi:=⟨cu[iN]'(by omega),Array.getElem?_eq_getElem _⟩
     have ci:=cell_block HB.out iN vi hvi
     clear hvi hcs2 hcsz
     go_wp2_with (go_at_call 81;refine (isId_any _ _ g b _ c1 c2).mono ?_;rintro e w1 ⟨rfl,rfl⟩)
     go_roundw
     case rel=>exact ⟨jn+1,iN+1,_,by go_num,by go_num,by omega,HP.out⟩
     case measure=>simp [intOf];omega
   ·have hje:jn=xs.length:=by omega
    have hil:iN<xs.length:=by omega
    have HC:=fun (ty:TypeId) (c:Nat)=>run_clear_ints wr ty ga iN (xs.length-iN) c cu hblk (by omega) (by omega)
    have HL:=ld (hI.last hje (m:=xs.length-iN) (.int .i64 0))
    have HI:=ld hI
    have HB:=ld hblk
    have hcn:(cp=iN)=False:=by simp;omega
    clear hI hblk hcsz hje
    go_wp2
    go_ret
    exact ⟨cp,by rw [←HL.out.1];rfl,by have:=HL.out.2.1;rwa [List.append_assoc] at this,by have:=HL.out.2.2;rwa [List.append_assoc] at this⟩
 ·have HK:=ld (show ixf xs id=-1 by unfold ixf;rw [if_neg hm])
  have HO:=ld (others_none id xs hm)
  go_enter Tryz.func80,Tryz.ntmps80
  go_wp2_with (go_at_call 111;refine (indexFunc_any _ _ cp xs id g b _ hrow rfl hl h1 h2).mono ?_;rintro e w' ⟨rfl,rfl⟩;rw [HK.out])
  go_ret
  exact ⟨cp,by rw [HO.out];rfl,by rw [HO.out];exact hrow,World.grownBy.refl _ _⟩
set_option maxRecDepth 100000 in
set_option maxHeartbeats 1000000 in
theorem others_new (b:Nat) (s:NS) (c:NC) (w:World) (h:w.heap[b]?=some (.cells (ncells s c) 126 (0,0))) (hp:Own encI 1 3 w 0 (.slice c.pA c.pn c.pc) c.peers) (hl:c.peers.length≤7) :
  Calls Tryz.prog 59 #[.pointer (some ⟨b,0,none⟩)] w fun e w'=>∃ A' c',e=.returned (.slice A' (others s.id c.peers).length c')∧RowS encI 1 w' (fun i=>w.heap.size≤i∧i<w'.heap.size) A' (others s.id c.peers)∧Below w.heap.size w w':=by
 obtain ⟨hn,_⟩:=Own.cap hp
 obtain ⟨W0,hW0⟩:∃ W0:World,W0=w.alloc (.cells #[.pointer (some ⟨b,0,none⟩)] 49):=⟨_,rfl⟩
 have hb0:Below w.heap.size w W0:=by rw [hW0];exact (Below.refl _ _).alloc (Nat.le_refl _) _
 have B0:=ld (show W0.heap[w.heap.size]?=some (.cells #[.pointer (some ⟨b,0,none⟩)] 49 (0,0)) by rw [hW0];exact World.alloc_at w _)
 have B1:=ld ((hb0.block b (block_lt h)).trans h)
 have hz0:w.heap.size+1=W0.heap.size:=by rw [hW0];simp
 have hr0:Row encI 1 W0 W0.heap.size c.pA c.peers:=by rw [hn] at hp;exact ((hp.row len_I).below hb0).more hb0.size
 have hlt:=block_lt h
 have c1:=nc1 h
 have HN:=ld hn
 have HZ0:=ld hz0
 clear h hn hp hz0
 go_enter Tryz.func59,Tryz.ntmps59
 go_wp2_with (fail)
 rw [←hW0]
 clear hW0 c1
 refine (iclone_any c.pA _ c.pc c.peers _ hr0 HN.out (by omega)).mono ?_
 rintro e w1 ⟨v1,rfl,hown1,hb1⟩
 obtain ⟨A1,k1,rfl⟩:=hown1.form
 have D0:=ld ((hb1.block _ (block_lt B0.out)).trans B0.out)
 have D1:=ld ((hb1.block _ (block_lt B1.out)).trans B1.out)
 have hbb1:Below w.heap.size w w1:=hb0.trans (hb1.mono hb0.size)
 have c0:=nc0 D1.out
 have d0:w1.cell? ⟨w.heap.size,0,none⟩=some (.pointer (some ⟨b,0,none⟩)):=cell_block D0.out 0 _ rfl
 have hlt0:w.heap.size<W0.heap.size:=by have:=HZ0.out;omega
 clear B0 B1
 go_wp2_with (fail)
 refine (deleteFunc_at A1 _ k1 W0.heap.size c.peers s.id w.heap.size b _ hown1 (by omega) d0 c0 (fun k hk=>by have:=(hown1.lt k hk).1;omega)).mono ?_
 rintro e w2 ⟨k2,rfl,hr2,hg2⟩
 go_wp2
 go_ret
 refine ⟨A1,k2,rfl,?_,hbb1.grown hg2 hbb1.size (fun k hk=>by have:=(hown1.lt k hk).1;omega)⟩
 rcases hr2 with h | ⟨x,o,e,hx,hc⟩
 ·exact .inl h
 ·subst e
  have hlt:=hown1.lt x rfl
  exact .inr ⟨x,o,rfl,⟨by have:=HZ0.out;omega,hx⟩,hc⟩
set_option maxRecDepth 100000 in
set_option maxHeartbeats 2000000 in
theorem sendAll_any (b:Nat) (s:NS) (c:NC) (F G:Nat→Prop) (w:World) (h:NdAt w F G b s c) (hpl:c.peers.length≤7) (kf:Int→Nat) (m:Nat) (hm:c.nxR=some m) (hk:∀ p∈others s.id c.peers,okI p∧kget c.nx p=some ((kf p:Int)+1)∧kf p≤c.log.length) (h0:s.snap=0) (hl:c.log.length≤65536) (hbt:1≤s.batch∧s.batch≤16) (hml:c.msgs.length≤900) :
  Calls Tryz.prog 98 #[.pointer (some ⟨b,0,none⟩)] w fun e w'=>e=.returned (.tuple #[])∧∃ G' c',Said w w' F G G' b s c c'∧c'.msgs.map pmOf=c.msgs.map pmOf++(others s.id c.peers).map (fun p=>appM s (c.log.map con) p (kf p)):=by
 have HH:=ld h
 have hb:=h.blk
 have HK:=ld hk
 have hol:(others s.id c.peers).length≤7:=Nat.le_trans (List.length_filter_le _ _) hpl
 clear hk
 go_enter Tryz.func98,Tryz.ntmps98
 go_wp2_with (fail)
 refine (others_new b s c _ hb h.rest.peers hpl).mono ?_
 rintro e w1 ⟨A1,k1,rfl,ho1,hb1⟩
 generalize hos:others s.id c.peers=os at HK hol ho1 ⊢
 have HO1:=ld ho1
 have HB1:=ld hb1
 have HN1:=ld (h.below hb1)
 have HF:=ld (show ∀ i,F i∨G i→i<w.heap.size from fun i hi=>hi.elim (h.rest.bdF i) (h.rest.bdG i))
 have HOS:=ld hos
 clear hos ho1 hb1 h hb
 go_wp2_with (fail)
 go_loopw [3,7] (fun _ i wr=>∃ (j:Nat) (G1:Nat→Prop) (c1:NC),i=.int .i64 j∧j≤os.length∧Hid (Said w1 wr F G G1 b s c c1∧c1.msgs.map pmOf=c.msgs.map pmOf++(os.take j).map (fun p=>appM s (c.log.map con) p (kf p)))) (fun _ i _=>os.length-(intOf i).toNat)
 case atStart=>exact ⟨0,G,c,rfl,Nat.zero_le _,ld ⟨Said.none HN1.out,by simp⟩⟩
 case round =>
  obtain ⟨j,G1,c1,rfl,hj,HS⟩:=hrel
  by_cases hlt:j<os.length
  ·have hg:=List.getElem?_eq_getElem hlt
   have hrow:RowS encI 1 wr (fun i=>w.heap.size≤i∧i<w1.heap.size) A1 os:=HO1.out.keep fun i hi=>HS.out.1.chg.keep hi.2 (by
    rintro (rfl | hg)
    ·have:=HF.out _ (.inl HH.out.hb);omega
    ·have:=HF.out _ (.inr hg);omega)
   obtain ⟨ba,o,rfl,_,c0⟩:=ints_at (hrow.row (B:=w1.heap.size) fun i hi=>hi.2) hg
   have hpm:os[j]∈os:=List.getElem_mem _
   have HKP:=ld (HK.out _ hpm)
   have HG:=ld hg
   clear hg hrow hpm
   generalize os[j]=p at c0 HKP HG
   have hml1:c1.msgs.length≤999:=by
    have:=congrArg List.length HS.out.2
    simp only [List.length_map,List.length_append,List.length_take] at this
    omega
   have HM1:=ld hml1
   have hc1:c1.nxR=c.nxR∧c1.nx=c.nx∧c1.log=c.log:=by rw [HS.out.1.c];exact ⟨rfl,rfl,rfl⟩
   have HC1:=ld hc1
   clear hml1 hc1
   go_wp2_with (fail)
   refine (sendTo_any b s c1 F G1 wr HS.out.1.nd p (kf p) m (by rw [HC1.out.1];exact hm) HKP.out.1 (by rw [HC1.out.2.1];exact HKP.out.2.1) h0 (by rw [HC1.out.2.2];exact HKP.out.2.2) (by rw [HC1.out.2.2];exact hl) hbt HM1.out).mono ?_
   rintro e w4 ⟨rfl,G4,c4,A4,n4,q4,qs4,hS4,hm4,hq4⟩
   have HS4:=ld (And.intro (HS.out.1.trans hS4) (show c4.msgs.map pmOf=c.msgs.map pmOf++(os.take (j+1)).map (fun p=>appM s (c.log.map con) p (kf p)) by
    rw [hm4,List.map_append,HS.out.2,List.append_assoc,List.take_add_one,List.map_append,HG.out]
    congr 2
    simp only [List.map_cons,List.map_nil,Option.toList_some,pmOf,MR.pm,appM]
    rw [hq4,HC1.out.2.2]))
   clear hS4 hm4 hq4 HS
   go_wp2_with (fail)
   go_roundw
   case rel=>exact ⟨j+1,G4,c4,by go_num,by omega,HS4⟩
   case measure=>simp [intOf];omega
  ·have hjl:j=os.length:=by omega
   subst hjl
   go_wp2
   go_end0
   refine ⟨rfl,G1,c1,Said.below HB1.out HS.out.1,?_⟩
   have:=HS.out.2
   rw [List.take_length] at this
   rw [HOS.out];exact this
def numb:Nat→List Rf.Ent→List E
 | _,[]=>[]
 | k,e :: l=>⟨(k:Int)+1,e.term,e.data⟩ :: numb (k+1) l
theorem numb_len (l:List Rf.Ent):∀ k,(numb k l).length=l.length:=by
 induction l with
 | nil=>intro k;rfl
 | cons e l ih=>intro k;simp [numb,ih]
theorem numb_append (l r:List Rf.Ent):∀ k,numb k (l++r)=numb k l++numb (k+l.length) r:=by
 induction l with
 | nil=>intro k;rfl
 | cons e l ih=>intro k;simp only [List.cons_append,numb,ih,List.length_cons];rw [Nat.add_assoc,Nat.add_comm 1]
theorem numb_get (l:List Rf.Ent):∀ k i,(numb k l)[i]?=(l[i]?).map fun e=>(⟨((k+i:Nat):Int)+1,e.term,e.data⟩:E):=by
 induction l with
 | nil=>intro k i;simp [numb]
 | cons e l ih =>
  intro k i
  cases i with
  | zero=>simp [numb]
  | succ i =>
   simp only [numb,List.getElem?_cons_succ,ih]
   rw [show k+1+i=k+(i+1) by omega]
theorem numb_drop (l:List Rf.Ent):∀ k i,(numb k l).drop i=numb (k+i) (l.drop i):=by
 induction l with
 | nil=>intro k i;simp [numb]
 | cons e l ih =>
  intro k i
  cases i with
  | zero=>simp
  | succ i =>
   simp only [numb,List.drop_succ_cons,ih]
   rw [show k+1+i=k+(i+1) by omega]
theorem numb_take (l:List Rf.Ent):∀ k i,(numb k l).take i=numb k (l.take i):=by
 induction l with
 | nil=>intro k i;simp [numb]
 | cons e l ih =>
  intro k i
  cases i with
  | zero=>simp [numb]
  | succ i=>simp only [numb,List.take_succ_cons,ih]
def pmR (m:Rf.Msg):PM:=⟨m.kind,m.src,m.dst,m.term,m.idx,m.lt,m.commit,numb m.idx m.es,m.rej,m.hint⟩
def ints (l:List Nat):List Int:=l.map fun (k:Nat)=>(k:Int)
structure Rel (cf:Rf.Cfg) (draw:Int) (s:NS) (c:NC) (p:Rf.Nd):Prop where
 id:s.id=p.id
 cfg:s.least=cf.least∧s.most=cf.most∧s.beatc=cf.beat∧s.batch=cf.batch
 hard:s.term=p.term∧s.vote=p.vote
 zero:s.snap=0∧s.snapTerm=0∧s.heir=0
 commit:s.commit=p.commit
 role:s.role=p.role∧s.leader=p.leader
 time:s.elapsed=p.elapsed∧s.timeout=p.timeout∧s.beat=p.beat
 draw:s.draw=draw
 peers:c.peers=ints (List.range' 1 cf.n)
 log:c.log.map con=numb 0 p.log
 lead:p.role=4→(∃ a b d,c.mtR=some a∧c.nxR=some b∧c.hdR=some d)∧c.mt=(Rf.others cf p.id).map (fun (q:Nat)=>((q:Int),((p.mt q:Nat):Int)))∧c.nx=(Rf.others cf p.id).map (fun (q:Nat)=>((q:Int),((p.nx q:Nat):Int)))∧c.hd.map (·.1)=ints p.hd
 gr:p.role=2∨p.role=3→(∃ a,c.grR=some a)∧c.gr.map (·.1)=ints p.gr
 rf:p.role=3→(∃ a,c.rfR=some a)∧c.rf.map (·.1)=ints p.rf
 sn:c.sn=[]
def FromOK (fr:Int) (l0 l:List Rf.Ent):Prop:=(fr=0∧l=l0)∨∃ k:Nat,fr=(k:Int)+1∧k≤l0.length∧k≤l.length∧l.take k=l0.take k
def NodeAt (w:World) (F G:Nat→Prop) (b:Nat) (cf:Rf.Cfg) (draw:Int) (l0:List Rf.Ent) (p:Rf.Nd) (ms:List Rf.Msg):Prop :=
 ∃ s c,NdAt w F G b s c∧Rel cf draw s c p∧c.msgs.map pmOf=ms.map pmR∧FromOK s.from_ l0 p.log
structure Fits (cf:Rf.Cfg) (p:Rf.Nd):Prop where
 n:1≤cf.n∧cf.n≤5
 time:2≤cf.least∧cf.least≤cf.most∧cf.most≤100∧1≤cf.beat∧cf.beat≤100
 batch:1≤cf.batch∧cf.batch≤16
 id:1≤p.id∧p.id≤cf.n
 fin:p.log.length≤65536
 term:p.term≤1000000
 commit:p.commit≤p.log.length
section
variable {cf:Rf.Cfg} {draw:Int} {s:NS} {c:NC} {p:Rf.Nd} {l0:List Rf.Ent} {ms:List Rf.Msg}
theorem Rel.len (h:Rel cf draw s c p):c.log.length=p.log.length:=by
 have:=congrArg List.length h.log
 rwa [List.length_map,numb_len] at this
theorem Rel.pl (h:Rel cf draw s c p):c.peers.length=cf.n:=by rw [h.peers];simp [ints]
theorem others_ints (cf:Rf.Cfg) (id:Nat):others (id:Int) (ints (List.range' 1 cf.n))=ints (Rf.others cf id):=by
 unfold others Rf.others ints
 rw [List.filter_map]
 congr 1
 refine List.filter_congr fun x _=>?_
 simp
 omega
theorem Rel.others (h:Rel cf draw s c p):others s.id c.peers=ints (Rf.others cf p.id):=by rw [h.id,h.peers,others_ints]
theorem lterm_tm (h:Rel cf draw s c p) {i:Nat} (hi:i≤p.log.length):lterm s (c.log.map con) i=(p.tm i:Nat):=by
 unfold lterm Rf.Nd.tm
 rw [h.zero.1,h.zero.2.1,h.log]
 by_cases h0:i=0
 ·subst h0;rfl
 ·rw [if_neg (by omega),if_neg h0]
  rw [show ((i:Int)-0-1).toNat=i-1 by omega,numb_get]
  cases hx:p.log[i-1]? with
  | none=>simp
  | some e=>simp
theorem haveOf_have (h:Rel cf draw s c p) (hr:p.role=4) (i:Nat):haveOf c.mt i=Rf.have_ cf p i:=by
 unfold haveOf Rf.have_
 rw [(h.lead hr).2.1,List.filter_map,List.length_map]
 congr 2
 refine List.filter_congr fun x _=>?_
 simp
theorem countFrom_eq (h:Rel cf draw s c p) (hr:p.role=4) (k:Nat) (hk:p.commit+k≤p.log.length):countFrom s (c.log.map con) c.mt c.peers.length k=(Rf.countFrom cf p (p.commit+k):Nat):=by
 induction k with
 | zero =>
  show s.commit=_
  rw [h.commit]
  have:Rf.countFrom cf p p.commit=p.commit:=by
   cases hc:p.commit with
   | zero=>unfold Rf.countFrom;exact hc
   | succ j=>unfold Rf.countFrom;rw [if_pos (by omega),hc]
  rw [Nat.add_zero,this]
 | succ k ih =>
  have ih:=ih (by omega)
  show (if lterm s (c.log.map con) (s.commit+(k+1:Nat))=s.term then _ else _)=_
  have e1:s.commit+((k+1:Nat):Int)=((p.commit+k+1:Nat):Int):=by rw [h.commit];omega
  rw [e1,lterm_tm h (by omega),h.hard.1,haveOf_have h hr,h.pl]
  show _=((Rf.countFrom cf p (p.commit+k+1):Nat):Int)
  unfold Rf.countFrom
  rw [if_neg (show ¬ (p.commit+k+1≤p.commit) by omega)]
  by_cases h1:p.tm (p.commit+k+1)=p.term
  ·rw [if_pos (by rw [h1]),if_pos h1]
   unfold Rf.maj
   by_cases h2:cf.n<2*Rf.have_ cf p (p.commit+k+1)
   ·rw [if_pos h2,if_pos (by simpa using h2)]
   ·rw [if_neg h2,if_neg (by simpa using h2),←h.pl];exact ih
  ·rw [if_neg (show ¬ (((p.tm (p.commit+k+1):Nat):Int)=(p.term:Int)) by omega),if_neg h1,h.commit]
theorem appM_app (h:Rel cf draw s c p) {q:Nat} (hq:1≤p.nx q∧p.nx q≤p.log.length+1):appM s (c.log.map con) q (p.nx q-1)=pmR (Rf.app cf p q):=by
 unfold appM pmR Rf.app
 rw [lterm_tm h (by omega),h.id,h.hard.1,h.commit,h.cfg.2.2.2,h.log,numb_drop,numb_take]
 simp
end
structure SG where
 id:Int
 bn:Nat
 t:Int
 v:Int
 cm:Int
 most:Int
 ro:Int
 le:Int
 dA:Option Addr
 dn:Nat
 dc:Nat
 dl:List (LE×List Int)
def scellsG (x:SG):Array Value:=#[.int .i64 x.id,.pointer (some ⟨x.bn,0,none⟩),.pointer none,.int .i64 x.t,.int .i64 x.v,.int .i64 0,.int .i64 0,.slice x.dA x.dn x.dc,.int .i64 x.cm,.int .i64 x.most,.int .i64 x.ro,.int .i64 x.le]
structure VG where
 n:Nat
 L:Int
 Mo:Int
 Bt:Int
 Ba:Int
 pA:Option Addr
 pc:Nat
 sA:Option Addr
 sc:Nat
 nA:Option Addr
 nn:Nat
 nc:Nat
 mL:Nat
 mV:Nat
 mK:Nat
 mT:Nat
 led:List (Int×Int)
 voted:List ((Int×Int)×Int)
 known:List (Int×(LE×List Int))
 tm:List (Int×Int)
 high:Int
 calm:Bool
def wcellsG (g:VG):Array Value:=#[.int .i64 0,.slice g.pA g.n g.pc,.int .i64 g.L,.int .i64 g.Mo,.int .i64 g.Bt,.int .i64 g.Ba,.slice g.sA g.n g.sc,.slice g.nA g.nn g.nc,.map (some g.mL),.map (some g.mV),.map (some g.mK),.map (some g.mT),.int .i64 g.high,.bool g.calm]
def VG.mut (g:VG) (bw:Nat) (bs:List Nat) (i:Nat):Prop:=i=bw∨i∈bs∨i=g.mL∨i=g.mV∨i=g.mK∨i=g.mT∨(Value.slice g.nA g.nn g.nc).ownBlock=some i
def encPt (b:Nat):List Value:=[.pointer (some ⟨b,0,none⟩)]
structure SAt (w:World) (S:Nat→Prop) (b:Nat) (x:SG):Prop where
 blk:w.heap[b]?=some (.cells (scellsG x) 52 (0,0))
 dl:EntsS w S x.dA x.dl
 dn:x.dn=x.dl.length
 dc:x.dn≤x.dc
structure VAt (w:World) (S:Nat→Prop) (bw:Nat) (bs:List Nat) (g:VG) (sg:Nat→SG) (net:List (MR×List (LE×List Int))):Prop where
 wb:w.heap[bw]?=some (.cells (wcellsG g) 43 (0,0))
 bd:∀ i,S i→i<w.heap.size
 st:∀ i,S i→¬ g.mut bw bs i
 peers:RowS encI 1 w S g.pA (ints (List.range' 1 g.n))
 seats:RowS encPt 1 w S g.sA bs
 bl:bs.length=g.n
 nd:bs.Nodup
 seat:∀ (i b:Nat),bs[i]?=some b→SAt w S b (sg (i+1))∧(sg (i+1)).id=((i+1:Nat):Int)
 led:MI w g.mL g.led
 voted:MapG Tryz.prog 150 encV (Value.int .i64) w g.mV g.voted
 known:MapG Tryz.prog 3 (Value.int .i64) encK w g.mK g.known
 tm:MI w g.mT g.tm
 apart:[g.mL,g.mV,g.mK,g.mT].Nodup
 kb:∀ p∈g.known,RowS encB 1 w S p.2.1.A p.2.2∧p.2.1.n=p.2.2.length∧p.2.2.length≤140737488351232
 netO:OwnO encM 10 59 w (.slice g.nA g.nn g.nc) (net.map (·.1))
 netE:∀ m∈net,EntsS w S m.1.eA m.2∧m.1.en=m.2.length∧m.1.en≤m.1.ec
section
variable {w w':World} {S S':Nat→Prop} {b bw:Nat} {bs:List Nat} {g:VG} {sg:Nat→SG} {net:List (MR×List (LE×List Int))} {x:SG}
theorem SAt.keep (h:SAt w S b x) (hb:w'.heap[b]?=w.heap[b]?) (hS:∀ i,S i→w'.heap[i]?=w.heap[i]?):SAt w' S b x:=⟨hb.trans h.blk,h.dl.keep hS,h.dn,h.dc⟩
theorem SAt.mono (h:SAt w S b x) (hs:∀ i,S i→S' i):SAt w S' b x:=⟨h.blk,h.dl.mono hs,h.dn,h.dc⟩
theorem VAt.mutLt (h:VAt w S bw bs g sg net) (i:Nat) (hi:g.mut bw bs i):i<w.heap.size:=by
 rcases hi with rfl | hi | rfl | rfl | rfl | rfl | hi
 ·exact block_lt h.wb
 ·obtain ⟨k,hk⟩:=List.getElem?_of_mem hi
  exact block_lt (h.seat k i hk).1.blk
 ·exact h.led.lt
 ·exact h.voted.lt
 ·exact h.known.lt
 ·exact h.tm.lt
 ·exact h.netO.lt i hi
theorem VAt.keep (h:VAt w S bw bs g sg net) (hsz:w.heap.size≤w'.heap.size) (hk:∀ i,S i∨g.mut bw bs i→i<w.heap.size→w'.heap[i]?=w.heap[i]?):VAt w' S bw bs g sg net:=by
 have hs:∀ i,S i→w'.heap[i]?=w.heap[i]?:=fun i hi=>hk i (.inl hi) (h.bd i hi)
 have hm:∀ i,g.mut bw bs i→w'.heap[i]?=w.heap[i]?:=fun i hi=>hk i (.inr hi) (h.mutLt i hi)
 exact ⟨(hm bw (.inl rfl)).trans h.wb,fun i hi=>Nat.lt_of_lt_of_le (h.bd i hi) hsz,h.st,h.peers.keep hs,h.seats.keep hs,h.bl,h.nd,fun i b hb=>⟨(h.seat i b hb).1.keep (hm b (.inr (.inl (List.mem_of_getElem? hb)))) hs,(h.seat i b hb).2⟩,
  h.led.same (hm _ (.inr (.inr (.inl rfl)))),h.voted.same (hm _ (.inr (.inr (.inr (.inl rfl))))),h.known.same (hm _ (.inr (.inr (.inr (.inr (.inl rfl)))))),h.tm.same (hm _ (.inr (.inr (.inr (.inr (.inr (.inl rfl))))))),h.apart,fun p hp=>⟨(h.kb p hp).1.keep hs,(h.kb p hp).2⟩,
  h.netO.same fun k hk=>hm k (.inr (.inr (.inr (.inr (.inr (.inr hk)))))),fun m hm'=>⟨(h.netE m hm').1.keep hs,(h.netE m hm').2⟩⟩
theorem VAt.below (h:VAt w S bw bs g sg net) (hb:Below w.heap.size w w'):VAt w' S bw bs g sg net:=h.keep hb.size fun i _ hl=>hb.block i hl
theorem VAt.drewN (h:VAt w S bw bs g sg net) (n:Nat):VAt (w.drewN n) S bw bs g sg net:=h.keep (Nat.le_refl _) fun _ _ _=>rfl
theorem VAt.chg (h:VAt w S bw bs g sg net) {F:Nat→Prop} (hc:Chg F w w') (hF:∀ i,F i→¬ S i∧¬ g.mut bw bs i):VAt w' S bw bs g sg net :=
 h.keep hc.size fun i hi hl=>hc.keep hl fun hf=>by rcases hi with hi | hi;exact (hF i hf).1 hi;exact (hF i hf).2 hi
theorem VAt.mono (h:VAt w S bw bs g sg net) (hs:∀ i,S i→S' i) (hb:∀ i,S' i→i<w.heap.size) (hd:∀ i,S' i→¬ g.mut bw bs i):VAt w S' bw bs g sg net :=
 ⟨h.wb,hb,hd,h.peers.mono hs,h.seats.mono hs,h.bl,h.nd,fun i b hb=>⟨(h.seat i b hb).1.mono hs,(h.seat i b hb).2⟩,h.led,h.voted,h.known,h.tm,h.apart,fun p hp=>⟨(h.kb p hp).1.mono hs,(h.kb p hp).2⟩,h.netO,fun m hm=>⟨(h.netE m hm).1.mono hs,(h.netE m hm).2⟩⟩
end
theorem le_alloc {w:World} {n:Nat} (h:n≤w.heap.size) (o:Obj):n≤(w.alloc o).heap.size:=by rw [World.alloc_size];exact Nat.le_succ_of_le h
theorem drew_below {w w':World} (h:w.drew.grownBy w' (Value.slice none 0 0).ownBlock):Below w.heap.size w w' :=
 ⟨h.os,h.tape,h.output,h.size,fun i hi=>h.block i hi (by simp [Value.ownBlock])⟩
set_option maxRecDepth 100000 in
set_option maxHeartbeats 4000000 in
theorem copyLog_any (A:Option Addr) (n c:Nat) (ps:List (LE×List Int)) (w:World) (hx:Ents w w.heap.size A ps) (hn:n=ps.length) (hl:ps.length≤100000) :
  Calls Tryz.prog 46 #[.slice A n c] w fun e w'=>∃ v qs,e=.returned v∧OEnts w' w.heap.size v qs∧qs.map con=ps.map con∧Below w.heap.size w w':=by
 subst hn
 go_enter Tryz.func46,Tryz.ntmps46
 go_wp2
 go_loopw [3,4] (fun l i wr=>∃ (k:Nat) (qs:List (LE×List Int)),i=.int .i64 k∧k≤ps.length∧OEnts wr w.heap.size l qs∧qs.map con=(ps.take k).map con∧Below w.heap.size w wr) (fun _ i _=>ps.length-(intOf i).toNat)
 case atStart=>exact ⟨0,[],rfl,by omega,OEnts.nil,rfl,Below.refl _ _⟩
 case round =>
  obtain ⟨k,qs,rfl,hk,hown,hq,hb⟩:=hrel
  by_cases hlt:k<ps.length
  ·have hpk:=List.getElem?_eq_getElem hlt
   obtain ⟨ba,o,rfl,hba,c0,c1,c2⟩:=ents_at (hx.below hb) hpk
   obtain ⟨hB,hnl,hlen⟩:=(hx.below hb).each _ (List.getElem_mem hlt)
   have hsz:=hb.size
   have hql:qs.length=k:=by have:=congrArg List.length hq;simp at this;omega
   have HP:=ld hpk
   clear hpk
   generalize ps[k]=p at c0 c1 c2 hB hnl hlen HP
   have hB'':Row encB 1 wr.drew w.heap.size p.1.A p.2:=hB
   rw [hnl] at c2
   have c0':wr.drew.cell? ⟨ba,o+k*3,none⟩=some (.int .i64 p.1.idx):=c0
   have c1':wr.drew.cell? ⟨ba,o+k*3+1,none⟩=some (.int .i64 p.1.term):=c1
   have c2':wr.drew.cell? ⟨ba,o+k*3+2,none⟩=some (.slice p.1.A p.2.length p.1.c):=c2
   have hlq1:∀ x:LE,((qs.map (·.1)).length+[x].length)*40≤140737488355328:=fun _=>by simp;omega
   have hlq2:∀ x:LE,(qs.map (·.1)).length+[x].length≤140737488355328:=fun _=>by simp;omega
   go_upto_region 6 with (fail)
   go_region_held3 (fun w'=>w'.cell? ⟨ba,o+k*3,none⟩=some (.int .i64 p.1.idx)∧w'.cell? ⟨ba,o+k*3+1,none⟩=some (.int .i64 p.1.term)∧w'.cell? ⟨ba,o+k*3+2,none⟩=some (.slice p.1.A p.2.length p.1.c))
    (first
     | go_keep
     | exact ⟨(hk3.cell (p:=⟨ba,_,none⟩) hba).trans c0,(hk3.cell (p:=⟨ba,_,none⟩) hba).trans c1,(hk3.cell (p:=⟨ba,_,none⟩) hba).trans c2⟩
     | (go_split_ands
        exact ⟨hg1.cell c0' (by simp [Value.ownBlock]),hg1.cell c1' (by simp [Value.ownBlock]),hg1.cell c2' (by simp [Value.ownBlock])⟩))
    (first
     | (refine step_app _ encB 1 (by rfl) _ _ 65 (by rfl) wr.heap.size 5 1 Tryz.underlying65 info5 (by omega) len_B one_B (.slice none 0 0) [] (by rfl) Own.nil w.heap.size p.1.A p.2.length p.1.c p.2 rfl (by rfl) hB'' (by simp;omega) (by simp;omega) (Nat.le_refl _) ?_;intro v1 w1 hown1 hg1 hat1 _;obtain ⟨A1,k1,rfl⟩:=hown1.form;have hO1:=ld (hown.below (drew_below hg1) (Nat.le_refl _));have hsz1:w.heap.size≤w1.heap.size:=Nat.le_trans hsz hg1.size;have hk1:Below w.heap.size wr w1:=(drew_below hg1).mono hsz)
     | (refine step_app _ encLE 3 (by rfl) _ _ 46 (by rfl) w.heap.size 67 40 Tryz.underlying46 info67 (by omega) len_LE one_LE _ (qs.map (·.1)) (by rfl) (hO1.out.own.alloc _) (w1.heap.size+1) (some ⟨w1.heap.size,0,none⟩) 1 1 [⟨p.1.idx,p.1.term,A1,p.2.length,k1⟩] rfl (by rfl) (row_one_LE _ ⟨p.1.idx,p.1.term,A1,p.2.length,k1⟩ _ rfl) (hlq1 _) (hlq2 _) (le_alloc hsz1 _) ?_;intro v3 w3 hown3 hg3 hat3 _;have hk3:Below w.heap.size wr w3:=(hk1.alloc hsz1 _).grown hg3 (le_alloc hsz1 _) (fun j hj=>(hown.own.lt j hj).1)))
   have hb3:=hb.trans hk3
   have hO:=ld (hO1.out.alloc (.cells #[.int .i64 p.1.idx,.int .i64 p.1.term,.slice A1 p.2.length k1] 67))
   go_wp2
   go_roundw
   case rel =>
    refine ⟨k+1,qs++[(⟨p.1.idx,p.1.term,A1,p.2.length,k1⟩,p.2)],by go_num,by omega,hO.out.app (rs:=[(⟨p.1.idx,p.1.term,A1,p.2.length,k1⟩,p.2)]) ?_ hown3 hg3 hat3,take_map_snoc HP.out hq rfl,hb3⟩
    intro q hq
    simp only [List.mem_singleton] at hq
    subst hq
    refine ⟨?_,?_,hlen⟩
    ·exact Own.weaken (Own.alloc (by simpa using hown1) _) hsz
    ·cases A1 with
     | none=>exact .inl rfl
     | some a1 =>
      right
      intro e
      have h1:=(hown1.lt a1.block rfl).1
      have h2:=(hown.own.lt _ e.symm).2
      omega
   case measure=>simp [intOf];omega
  ·have HZ:=ld (show ps.take k=ps from List.take_of_length_le (by omega))
   go_wp2
   go_ret
   exact ⟨_,_,rfl,hown,by rw [hq,HZ.out],hb⟩
end Go.Proofs.YtocogcgnahbpkaaGreat
