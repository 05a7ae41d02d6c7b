import Derived.Test.YtocogcgnahbpkaaGreatC12
import Derived.Test.YtocogcgnahbpkaaGreatC18
namespace Go.Proofs.YtocogcgnahbpkaaGreat
open Go.RowKit
structure TInv (KO:Nat→E→Int→Prop) (VO:Int×Int→Int→Prop) (LO:Int→Int→Prop) (g:VG) (h:Nat):Prop where
 high:g.high=h
 le:h≤100000
 v:∀ k x,kget g.voted k=some x→VO k x
 l:∀ t x,kget g.led t=some x→LO t x
 k:∀ i:Nat,i<h→∃ q τ,kget g.known ((i:Int)+1)=some q∧kget g.tm ((i:Int)+1)=some τ∧KO i (con q) τ
 n:∀ i:Int,(h:Int)<i→kget g.known i=none
def leOf (o:Option (LE×List Int)):LE:=(o.map (·.1)).getD ⟨0,0,none,0,0⟩
theorem entry_any (b:Nat) (x:SG) (S:Nat→Prop) (k:Nat) (w:World) (h:SAt w S b x) (hS:∀ i,S i→i<w.heap.size) (hk:k≤1000000) (hl:x.dl.length≤100000) :
  Calls Tryz.prog 18 #[.pointer (some ⟨b,0,none⟩),.int .i64 (k+1)] w fun e w'=>e=.returned (.tuple #[.agg #[.int .i64 (leOf x.dl[k]?).idx,.int .i64 (leOf x.dl[k]?).term,.slice (leOf x.dl[k]?).A (leOf x.dl[k]?).n (leOf x.dl[k]?).c],.bool x.dl[k]?.isSome])∧Below w.heap.size w w':=by
 cases hq:x.dl[k]? with
 | none=>exact entry_no b x S k w h (List.getElem?_eq_none_iff.1 hq) hk
 | some q=>exact entry_at b x S k q w h hS hq hl
set_option maxRecDepth 100000 in
set_option maxHeartbeats 4000000 in
theorem complete_any (bw b i h:Nat) (bs:List Nat) (g:VG) (sg:Nat→SG) (net:List (MR×List (LE×List Int))) (S:Nat→Prop) (x:SG) (KO:Nat→E→Int→Prop) (w:World) (ha:VAt w S bw bs g sg net) (hbi:bs[i]?=some b) (hx:sg (i+1)=x) (hh:g.high=h) (hle:h≤100000)
  (hk:∀ j:Nat,j<h→∃ q τ,kget g.known ((j:Int)+1)=some q∧kget g.tm ((j:Int)+1)=some τ∧KO j (con q) τ) (hc:∀ j e τ,KO j e τ→τ<x.t→(x.dl.map con)[j]?=some e) (hl:x.dl.length≤100000) :
  Calls Tryz.prog 82 #[.pointer (some ⟨bw,0,none⟩),.pointer (some ⟨b,0,none⟩)] w fun e w'=>e=.returned (.bool true)∧Below w.heap.size w w':=by
 have hsa:∀ W,VAt W S bw bs g sg net→SAt W S b x:=fun W hW=>hx▸(hW.seat i b hbi).1
 have HA:=ld ha
 have HK:=ld hk
 have HC:=ld hc
 have HSA:=ld hsa
 have d5:=vs5 (hsa w ha).blk
 have hlw:=block_lt ha.wb
 have hlb:=block_lt (hsa w ha).blk
 clear ha hk hc hbi hx hsa
 go_enter Tryz.func82,Tryz.ntmps82
 go_wp2
 go_loopw [5] (fun i wr=>∃ k:Nat,i=.int .i64 ((k:Int)+1)∧k≤h∧Below w.heap.size w wr) (fun i _=>h+1-(intOf i).toNat)
 case atStart=>exact ⟨0,rfl,by omega,Below.refl _ _⟩
 case round =>
  obtain ⟨k,rfl,hkh,hb⟩:=hrel
  have HW:=ld (HA.out.below hb)
  have c12:=vw12 HW.out.wb
  rw [hh] at c12
  have hszr:=hb.size
  by_cases hlt:k<h
  ·obtain ⟨q,τ,hq,hτ,hKO⟩:=HK.out k hlt
   have hqb:=HW.out.kb _ (kget_mem hq)
   have hok:okI ((k:Int)+1):=by unfold okI;omega
   have lk:∀ W,Below wr.heap.size wr W→(Instr.lookup 41 (.map (some g.mK)) (.int .i64 ((k:Int)+1)) true).run Tryz.prog W=.ok (.tuple #[.agg #[.int .i64 q.1.idx,.int .i64 q.1.term,.slice q.1.A q.1.n q.1.c],.bool true]) W:=fun W hW=>by
    have:=(HW.out.below hW).known.look_ok KI Tryz.underlying41 ((k:Int)+1) hok _ zero67
    rw [hq] at this
    exact this
   have lt:∀ W,Below wr.heap.size wr W→(Instr.lookup 39 (.map (some g.mT)) (.int .i64 ((k:Int)+1)) false).run Tryz.prog W=.ok (.int .i64 τ) W:=fun W hW=>by
    have:=(HW.out.below hW).tm.look KI Tryz.underlying39 ((k:Int)+1) hok _ zero3
    rw [hτ] at this
    exact this
   have lk0:=lk wr (Below.refl _ _)
   have c10:=vw10 HW.out.wb
   have LT:=ld lt
   have HKQ:=ld hq
   have HQB:=ld hqb
   have HKO:=ld hKO
   clear lk hq hτ hqb lt hKO
   go_wp2_with (fail)
   have hB1:=below_one wr (.cells #[.int .i64 q.1.idx,.int .i64 q.1.term,.slice q.1.A q.1.n q.1.c] 67)
   have hX1:=World.alloc_at wr (.cells #[.int .i64 q.1.idx,.int .i64 q.1.term,.slice q.1.A q.1.n q.1.c] 67)
   generalize wr.alloc (.cells #[.int .i64 q.1.idx,.int .i64 q.1.term,.slice q.1.A q.1.n q.1.c] 67)=W1 at hB1 hX1 ⊢
   refine (entry_any b x S k W1 (HSA.out _ (HW.out.below hB1)) (HW.out.below hB1).bd (by omega) hl).mono ?_
   rintro e w2 ⟨rfl,hb2⟩
   obtain ⟨p,hp⟩:∃ p,p=leOf x.dl[k]?:=⟨_,rfl⟩
   obtain ⟨ok,hokk⟩:∃ ok,ok=x.dl[k]?.isSome:=⟨_,rfl⟩
   rw [←hp,←hokk]
   have HP:=ld (And.intro hp hokk)
   clear hp hokk
   go_upto_region 6 with (fail)
   have hz1:=hB1.size
   have hz2:=hb2.size
   have hB3:Below wr.heap.size wr (w2.alloc (.cells #[.int .i64 p.idx,.int .i64 p.term,.slice p.A p.n p.c] 67)):=(hB1.trans (hb2.mono hz1)).alloc (by omega) _
   have hX3:=block_alloc ((hb2.block wr.heap.size (block_lt hX1)).trans hX1) (.cells #[.int .i64 p.idx,.int .i64 p.term,.slice p.A p.n p.c] 67)
   have hY3:=World.alloc_at w2 (.cells #[.int .i64 p.idx,.int .i64 p.term,.slice p.A p.n p.c] 67)
   obtain ⟨xx,hx⟩:∃ xx,xx=wr.heap.size:=⟨_,rfl⟩
   obtain ⟨y,hy⟩:∃ y,y=w2.heap.size:=⟨_,rfl⟩
   rw [←hx] at hX3
   rw [←hy] at hY3
   rw [←hx,←hy]
   have HX:=ld hx
   have hyx:y≠xx:=by have:=block_lt hX1;omega
   generalize w2.alloc (.cells #[.int .i64 p.idx,.int .i64 p.term,.slice p.A p.n p.c] 67)=W3 at hB3 hX3 hY3 ⊢
   have HX3:=ld hX3
   have HY3:=ld hY3
   have HB3:=ld hB3
   have HSS:Hid (∀ W,Below W3.heap.size W3 W→W.cell? ⟨bw,11,none⟩=some (.map (some g.mT))∧(Instr.lookup 39 (.map (some g.mT)) (.int .i64 ((k:Int)+1)) false).run Tryz.prog W=.ok (.int .i64 τ) W∧W.cell? ⟨b,3,none⟩=some (.int .i64 x.t)∧W.cell? ⟨xx,0,none⟩=some (.int .i64 q.1.idx)∧W.cell? ⟨xx,1,none⟩=some (.int .i64 q.1.term)∧W.cell? ⟨xx,2,none⟩=some (.slice q.1.A q.1.n q.1.c)∧W.cell? ⟨y,0,none⟩=some (.int .i64 p.idx)∧W.cell? ⟨y,1,none⟩=some (.int .i64 p.term)∧W.cell? ⟨y,2,none⟩=some (.slice p.A p.n p.c)):=ld (fun W hW=>by
    have hbW:Below wr.heap.size wr W:=HB3.out.trans (hW.mono HB3.out.size)
    have hA:=HW.out.below hbW
    have hx':=(hW.block xx (block_lt HX3.out)).trans HX3.out
    have hy':=(hW.block y (block_lt HY3.out)).trans HY3.out
    exact ⟨vw11 hA.wb,LT.out W hbW,vs3 (HSA.out _ hA).blk,(cells3 hx').1,(cells3 hx').2.1,(cells3 hx').2.2,(cells3 hy').1,(cells3 hy').2.1,(cells3 hy').2.2⟩)
   obtain ⟨f0,f1,f2,f3,f4,f5,f6,f7,f8⟩:=HSS.out W3 (Below.refl _ _)
   have hlx:xx<W3.heap.size:=block_lt hX3
   have hly:y<W3.heap.size:=block_lt hY3
   have hl3:wr.heap.size≤W3.heap.size:=hB3.size
   by_cases hττ:τ<x.t
   ·have hdl:=HC.out k _ _ HKO.out hττ
    rw [List.getElem?_map] at hdl
    obtain ⟨p',hp',hpc⟩:=Option.map_eq_some_iff.1 hdl
    obtain ⟨e1,e2⟩:=HP.out
    rw [hp'] at e1 e2
    have e1':p=p'.1:=e1
    have e2':ok=true:=e2
    subst e2' e1'
    have HPP:=ld (And.intro hp' hpc)
    have HSL:Hid (∀ W i j,Below W3.heap.size W3 W→W.heap[i]?=some (.cells #[.int .i64 p'.1.idx,.int .i64 p'.1.term,.slice p'.1.A p'.1.n p'.1.c] 67 (0,0))→W.heap[j]?=some (.cells #[.int .i64 q.1.idx,.int .i64 q.1.term,.slice q.1.A q.1.n q.1.c] 67 (0,0)) →
      Calls Tryz.prog 45 #[.slice (some ⟨i,0,none⟩) 1 1,.slice (some ⟨j,0,none⟩) 1 1] W fun e w'=>e=.returned (.bool true)∧∃ k,w'=W.drewN k):=ld (fun W i j hW hi hj=>by
     have hbW:Below wr.heap.size wr W:=HB3.out.trans (hW.mono HB3.out.size)
     have hA:=HW.out.below hbW
     have hq':=hA.kb _ (kget_mem HKQ.out)
     have hp':=(HSA.out _ hA).dl.each _ (List.mem_of_getElem? HPP.out.1)
     exact sameLog_yes _ _ 1 1 1 1 [p'] [q] W (ents_one' hi hp'.1 hA.bd (block_lt hi) hp'.2.1 hp'.2.2) rfl (ents_one' hj hq'.1 hA.bd (block_lt hj) hq'.2.1 hq'.2.2) rfl (by simp) (by simp [HPP.out.2]))
    clear hB3 hX3 hY3 hB1 hX1 hb2 hz1 hz2 hx hy LT lk0 c10 c12 HP e1 e2 hp' hpc hdl
    refine wp_region_held_drew (S:=fun W=>W.cell? ⟨bw,11,none⟩=some (.map (some g.mT))∧(Instr.lookup 39 (.map (some g.mT)) (.int .i64 ((k:Int)+1)) false).run Tryz.prog W=.ok (.int .i64 τ) W∧W.cell? ⟨b,3,none⟩=some (.int .i64 x.t)∧W.cell? ⟨xx,0,none⟩=some (.int .i64 q.1.idx)∧W.cell? ⟨xx,1,none⟩=some (.int .i64 q.1.term)∧W.cell? ⟨xx,2,none⟩=some (.slice q.1.A q.1.n q.1.c)∧W.cell? ⟨y,0,none⟩=some (.int .i64 p'.1.idx)∧W.cell? ⟨y,1,none⟩=some (.int .i64 p'.1.term)∧W.cell? ⟨y,2,none⟩=some (.slice p'.1.A p'.1.n p'.1.c)) (by kernel_rfl) (HSS.out _ (Below.refl _ _).drew) (fun hHeld=>?_)
    refine tks 0 (.bool true) ?_
    refine tks 1 (.bool true) ?_
    refine tks 2 (.pointer (some ⟨bw,0,none⟩)) ?_
    refine tks 3 (.pointer (some ⟨bw,0,none⟩)) ?_
    refine tks 4 (.pointer (some ⟨bw,11,none⟩)) ?_
    refine tks 5 (.map (some g.mT)) ?_
    refine tks 6 (.int .i64 ((k:Int)+1)) ?_
    refine tks 7 (.int .i64 τ) ?_
    refine tks 8 (.pointer (some ⟨b,0,none⟩)) ?_
    refine tks 9 (.pointer (some ⟨b,0,none⟩)) ?_
    refine tks 10 (.pointer (some ⟨b,3,none⟩)) ?_
    refine tks 11 (.pointer (some ⟨b,3,none⟩)) ?_
    refine tks 12 (.pointer (some ⟨b,3,none⟩)) ?_
    refine tks 13 (.int .i64 x.t) ?_
    refine tks 14 (.bool true) ?_
    refine tks 15 (.bool true) ?_
    refine tks 16 (.bool true) ?_
    refine tks 17 (.bool true) ?_
    refine tks 18 (.bool false) ?_
    refine tks 19 (.bool false) ?_
    refine tks 20 (.agg #[.int .i64 p'.1.idx,.int .i64 p'.1.term,.slice p'.1.A p'.1.n p'.1.c]) ?_
    refine tks 22 (.agg #[.int .i64 q.1.idx,.int .i64 q.1.term,.slice q.1.A q.1.n q.1.c]) ?_
    refine wpAnyH_ready (rs:=[21,23]) (by kernel_rfl) (by simp) ?_
    refine AllReadyH.cons rfl (fun K hK=>?_) (AllReadyH.cons rfl (fun K hK=>?_) AllReadyH.nil)
    ·
     go_simp
     refine hks hK ?_ fun hHeld=>?_
     ·exact HSS.out _ (by repeat' (first | exact Below.refl _ _ | refine Below.drew ?_ | refine below_drewN' ?_ _ | refine Below.alloc ?_ (by first | exact Nat.le_refl _ | (simp;done) | (simp;omega)) _))
     clear hK K
     refine rdy 23 fun K hK=>?_
     go_simp
     refine hks hK ?_ fun hHeld=>?_
     ·exact HSS.out _ (by repeat' (first | exact Below.refl _ _ | refine Below.drew ?_ | refine below_drewN' ?_ _ | refine Below.alloc ?_ (by first | exact Nat.le_refl _ | (simp;done) | (simp;omega)) _))
     clear hK K
     refine rdy 24 fun K hK=>?_
     go_simp
     refine (HSL.out _ _ _ (by repeat' (first | exact Below.refl _ _ | refine Below.drew ?_ | refine below_drewN' ?_ _ | refine Below.alloc ?_ (by first | exact Nat.le_refl _ | (simp;done) | (simp;omega)) _)) (alloc2_0 _ _ _) (alloc2_1 _ _ _)).mono ?_
     rintro e w5 ⟨rfl,nq5,rfl⟩
     go_wp2_with fail
     refine hks hK ?_ fun hHeld=>?_
     ·exact HSS.out _ (by repeat' (first | exact Below.refl _ _ | refine Below.drew ?_ | refine below_drewN' ?_ _ | refine Below.alloc ?_ (by first | exact Nat.le_refl _ | (simp;done) | (simp;omega)) _))
     clear hK K
     refine tks 25 (.bool false) ?_
     refine tks 26 (.bool false) ?_
     refine tks 27 (.bool false) ?_
     refine don ?_
     go_wp2_with fail
     go_roundw
     case rel=>exact ⟨k+1,by go_num,by omega,hb.trans ((HB3.out.trans (Below.mono (show Below W3.heap.size W3 _ from (by repeat' (first | exact Below.refl _ _ | refine Below.drew ?_ | refine below_drewN' ?_ _ | refine Below.alloc ?_ (by first | exact Nat.le_refl _ | (simp;done) | (simp;omega)) _))) hl3)).mono hszr)⟩
     case measure=>simp [intOf];omega
    ·
     go_simp
     refine hks hK ?_ fun hHeld=>?_
     ·exact HSS.out _ (by repeat' (first | exact Below.refl _ _ | refine Below.drew ?_ | refine below_drewN' ?_ _ | refine Below.alloc ?_ (by first | exact Nat.le_refl _ | (simp;done) | (simp;omega)) _))
     clear hK K
     refine rdy 21 fun K hK=>?_
     go_simp
     refine hks hK ?_ fun hHeld=>?_
     ·exact HSS.out _ (by repeat' (first | exact Below.refl _ _ | refine Below.drew ?_ | refine below_drewN' ?_ _ | refine Below.alloc ?_ (by first | exact Nat.le_refl _ | (simp;done) | (simp;omega)) _))
     clear hK K
     refine rdy 24 fun K hK=>?_
     go_simp
     refine (HSL.out _ _ _ (by repeat' (first | exact Below.refl _ _ | refine Below.drew ?_ | refine below_drewN' ?_ _ | refine Below.alloc ?_ (by first | exact Nat.le_refl _ | (simp;done) | (simp;omega)) _)) (alloc2_1 _ _ _) (alloc2_0 _ _ _)).mono ?_
     rintro e w5 ⟨rfl,nq5,rfl⟩
     go_wp2_with fail
     refine hks hK ?_ fun hHeld=>?_
     ·exact HSS.out _ (by repeat' (first | exact Below.refl _ _ | refine Below.drew ?_ | refine below_drewN' ?_ _ | refine Below.alloc ?_ (by first | exact Nat.le_refl _ | (simp;done) | (simp;omega)) _))
     clear hK K
     refine tks 25 (.bool false) ?_
     refine tks 26 (.bool false) ?_
     refine tks 27 (.bool false) ?_
     refine don ?_
     go_wp2_with fail
     go_roundw
     case rel=>exact ⟨k+1,by go_num,by omega,hb.trans ((HB3.out.trans (Below.mono (show Below W3.heap.size W3 _ from (by repeat' (first | exact Below.refl _ _ | refine Below.drew ?_ | refine below_drewN' ?_ _ | refine Below.alloc ?_ (by first | exact Nat.le_refl _ | (simp;done) | (simp;omega)) _))) hl3)).mono hszr)⟩
     case measure=>simp [intOf];omega
   ·clear hB3 hX3 hY3 hB1 hX1 hb2 hz1 hz2 hx hy LT lk0 c10 c12 HP
    refine wp_region_held_drew (S:=fun W=>W.cell? ⟨bw,11,none⟩=some (.map (some g.mT))∧(Instr.lookup 39 (.map (some g.mT)) (.int .i64 ((k:Int)+1)) false).run Tryz.prog W=.ok (.int .i64 τ) W∧W.cell? ⟨b,3,none⟩=some (.int .i64 x.t)∧W.cell? ⟨xx,0,none⟩=some (.int .i64 q.1.idx)∧W.cell? ⟨xx,1,none⟩=some (.int .i64 q.1.term)∧W.cell? ⟨xx,2,none⟩=some (.slice q.1.A q.1.n q.1.c)∧W.cell? ⟨y,0,none⟩=some (.int .i64 p.idx)∧W.cell? ⟨y,1,none⟩=some (.int .i64 p.term)∧W.cell? ⟨y,2,none⟩=some (.slice p.A p.n p.c)) (by kernel_rfl) (HSS.out _ (Below.refl _ _).drew) (fun hHeld=>?_)
    refine tks 0 (.bool true) ?_
    refine tks 1 (.bool true) ?_
    refine tks 2 (.pointer (some ⟨bw,0,none⟩)) ?_
    refine tks 3 (.pointer (some ⟨bw,0,none⟩)) ?_
    refine tks 4 (.pointer (some ⟨bw,11,none⟩)) ?_
    refine tks 5 (.map (some g.mT)) ?_
    refine tks 6 (.int .i64 ((k:Int)+1)) ?_
    refine tks 7 (.int .i64 τ) ?_
    refine tks 8 (.pointer (some ⟨b,0,none⟩)) ?_
    refine tks 9 (.pointer (some ⟨b,0,none⟩)) ?_
    refine tks 10 (.pointer (some ⟨b,3,none⟩)) ?_
    refine tks 11 (.pointer (some ⟨b,3,none⟩)) ?_
    refine tks 12 (.pointer (some ⟨b,3,none⟩)) ?_
    refine tks 13 (.int .i64 x.t) ?_
    refine tks 14 (.bool false) ?_
    refine tks 15 (.bool false) ?_
    refine tks 16 (.bool false) ?_
    refine tko 17 ?_
    refine tko 18 ?_
    refine tko 19 ?_
    refine tko 20 ?_
    refine tko 21 ?_
    refine tko 22 ?_
    refine tko 23 ?_
    refine tko 24 ?_
    refine tko 25 ?_
    refine tko 26 ?_
    refine tks 27 (.bool false) ?_
    refine don ?_
    go_wp2_with fail
    go_roundw
    case rel=>exact ⟨k+1,by go_num,by omega,hb.trans ((HB3.out.trans (Below.mono (show Below W3.heap.size W3 _ from (by repeat' (first | exact Below.refl _ _ | refine Below.drew ?_ | refine below_drewN' ?_ _ | refine Below.alloc ?_ (by first | exact Nat.le_refl _ | (simp;done) | (simp;omega)) _))) hl3)).mono hszr)⟩
    case measure=>simp [intOf];omega
  ·have:¬ ((k:Int)+1≤h):=by omega
   go_wp2
   go_ret
   exact ⟨rfl,hb⟩
end Go.Proofs.YtocogcgnahbpkaaGreat
