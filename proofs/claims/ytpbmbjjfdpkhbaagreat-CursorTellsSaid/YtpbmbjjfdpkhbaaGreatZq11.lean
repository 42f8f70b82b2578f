/- part of the proof -/
import Derived.Deep.CutRange
import Derived.Deep.MidRow
import Derived.Test.YtpbmbjjfdpkhbaaGreatZq10
import Derived.Test.YtpbmbjjfdpkhbaaGreatZq5
import Derived.Test.YtpbmbjjfdpkhbaaGreatZq7
import Derived.Test.YtpbmbjjfdpkhbaaGreatZq8
import Derived.Test.YtpbmbjjfdpkhbaaGreatZq6
import Derived.Test.YtpbmbjjfdpkhbaaGreatZq4
import Derived.Test.YtpbmbjjfdpkhbaaGreatZq2
import Derived.ArgAppend
import Derived.Lib.SliceRun
namespace Go.Proofs.YtpbmbjjfdpkhbaaGreat
open Go Go.RowKit
set_option linter.all false
set_option maxRecDepth 100000
set_option maxHeartbeats 32000000
open Go.Proofs.Tryz
open And renaming intro->Lr
open Below renaming refl->Lg
open Bool renaming false_ne_true->Ld
open Go renaming bodyPost_ret->Li,info_parts->Mr,wpOp_step->Lj
open Go.IntWalk renaming i64_in->Lh
open Go.Lib renaming hid->Lc
open Go.Region renaming wanted->Mx
open Go.Value renaming oneCell'->LD,ownBlock->Nt
open Go.World renaming size_alloc->Ls
open Int renaming tdiv_eq_ediv_of_nonneg->Nn
open List renaming all_eq_true->MV,append_assoc->Ny,flatMap_append->MJ,flatMap_cons->NE,getD_eq_getElem?_getD->LJ,getElem?_append_right->Mw,getElem?_eq_getElem->Lu,map_append->Nb,mem_cons_of_mem->Lx,mem_cons_self->Mm,range->L8,take_of_length_le->LF
open Nat renaming add_mul->M7,le_refl->Lf,le_succ->MK,le_trans->Lt,mul_assoc->MB,mul_comm->Mk,mul_le_mul_left->MW,mul_le_mul_right->Mg,one_mul->MO,pow_add->MQ,pow_le_pow_right->LQ,strongRecOn->NA,two_pow_pos->M6,zero_add->MZ,zero_le->LC
open Option.some renaming inj->Le
theorem ldb {P : Program} {a : Act} {w : World} {ops : Array Oper} {rest : List Oper} {op : Oper} {Q : Exit → Act → World → Prop} {T T' : TypeId} {g n : Nat} {r : Array Value} {d : TypeDesc} {x : Operand} (h : Blk w g T' r) (o : Nat)
    (hu : P.underlying T = some d) (hi : (P.info? T).map (·.size) = some n) (ho : op.op = .load T x) (hx : a.eval x = .pointer (some ⟨g, o, none⟩)) (hd : d.isRow = true) (hgd : Region.wanted op (yielded ops a.tmps) = true)
    (k : wpList P ops Q rest (a.put op.dst (.agg ((r.toList.drop o).take n).toArray)) w) (hn : ((r.toList.drop o).take n).length = n := by rfl) : wpList P ops Q (op :: rest) a w := by
  refine wpList_step fun K hK => ?_
  rw [if_pos hgd]
  refine wp_load_mid T x ho g o hx ((r.toList.drop o).take n) d (fun j v hv => ?_) hu hd (by rw [hn]; exact hi) (hK _ _ k)
  have hj : j < n := by have := (List.getElem?_eq_some_iff.1 hv).1; omega
  rw [h.cell, ← hv, List.getElem?_take, if_pos hj, List.getElem?_drop, Array.getElem?_toList]
theorem eO {P:Program} {w:World} {ops:Array Oper} {o:Oper} {a:Act} {K:Act->World->Prop} {Q:Exit->Act->World->Prop} {E:Prop} (hgd:o.guard=none) (ty:TypeId) (x:Operand) (ho:o.op= .load ty x)
  (b f:Nat) (hx:a.eval x= .pointer (some ⟨b,f,none⟩)) (cs:List Value) (d:TypeDesc) (hc:w.rangeAt b f cs)
  (hu:P.underlying ty=some d) (hd:d.isRow=true) (hi:(P.info? ty).map (·.size)=some cs.length)
  (h:K (a.put o.dst (.agg cs.toArray)) w):if Mx o (yielded ops a.tmps)=true then Oper.wp P o a w K Q else E:=by
 have hw:Mx o (yielded ops a.tmps)=true:=by simp[Mx,hgd]
 rw[if_pos hw]
 exact wp_load_mid ty x ho b f hx cs d hc hu hd hi h
theorem aP {P:Program} {w:World} {ops:Array Oper} {o:Oper} {a:Act} {K:Act->World->Prop} {Q:Exit->Act->World->Prop} {E:Prop} (hgd:o.guard=none) (ty:TypeId) (x y:Operand) (ho:o.op= .store ty x y)
  (b f:Nat) (cells:Array Value) (hx:a.eval x= .pointer (some ⟨b,f,none⟩)) (hy:a.eval y= .agg cells)
  (ht:w.there b f cells.size) (hi:(P.info? ty).map (·.size)=some cells.size) (h1:cells.all (·.oneCell')=true)
  (h:K (a.put o.dst undef) (w.setCells b f cells.toList)):if Mx o (yielded ops a.tmps)=true then Oper.wp P o a w K Q else E:=by
 have hw:Mx o (yielded ops a.tmps)=true:=by simp[Mx,hgd]
 rw[if_pos hw]
 exact wp_store_mid ty x y ho b f cells hx hy ht hi h1 h
theorem bf:(prog.info? 24).map (·.size)=some 9:=by kernel_rfl
theorem mX {P:Prop} (h:P:=by
  iterate 7 apply Exists.intro
  refine⟨rfl,?_,?_,?_,?_,?_,?_,?_,?_,?_,?_,?_,?_,?_,?_⟩
  ·first|exact aR (MK _) _ 0 _ HB.out|exact HB.out|exact aa HB.out hb1
  ·first|(intro h;refine absurd h ?_;simp;done;done)|exact fun h=>⟨HG.out,HG1.out⟩|exact fun h=>⟨HG.out.below hb1 HG.out.lt,HG1.out.below hb1 HG1.out.lt⟩
  ·first|exact F0.out|exact fun _=>rfl
  ·first|exact F1.out|exact fun _=>rfl
  ·first|exact F2.out|exact fun _=>rfl
  ·first|exact F3.out|exact fun _=>rfl
  ·first|exact(fun h=>⟨(F4.out (by simpa using h)).1,(F4.out (by simpa using h)).2.step (bg (by show w.heap.size+1< w.heap.size+2;omega) _ 0 _)⟩)|exact F4.out|exact fun h=>⟨rfl,zz4.out⟩|exact(fun _=>⟨rfl,Held.join (aS hh2 (fun W2 h2=>Lr hl2 h2)) (Mod.refl _ _) (fun k _ hx=>Nat.lt_of_lt_of_le hx (by have:=HG1.out.lt;omega))⟩)
  ·first|exact F5.out|exact fun _=>rfl|exact(fun h=>absurd (show L 5=true by simpa using h) (by intro h;exact absurd ((C5.out h).2) (by rw[HLi.out];exact Ld)))
  ·first|exact(fun h=>absurd (show L 6=true by simpa using h) (by rw[hlast];exact Ld))|(intro _;simpa[dn]using Blk.setCells (#[.int .u8 c.tag,.int .i64 c.most,.int .i64 c.seg,.int .i64 c.least,.int .i64 c.den,.int .i64 c.leafLow,.int .i64 c.rootLow,.int .i64 c.rootHigh,.int .i64 c.leafHigh,.int .i64 s2.seg,.slice s2.wA s2.ws.length s2.wc,.slice s2.kA s2.ks.length s2.kc,.slice s2.vA s2.vs.length s2.vc,.slice s2.cA s2.cs.length s2.cc,.int .u64 s2.laid]:Array Value).toList 0 _ _ HG1.out;done)
  ·first|(intro h;have hh:=C1.out (by simpa using h);simp[hh];done)|(intro _;simp[hl0];done)
  ·first|(intro h;have hh:=C3.out (by simpa using h);simp[hh];done)|(intro _;simp[hl2];done)
  ·first|(intro h;have hh:=C4.out (by simpa using h);simp[hh];done)|(intro _;simp[hl3];done)
  ·first|(intro h;have hh:=C5.out (by simpa using h);simp[hh];done)|(intro _;simp[hl1,hl4];done)
  ·first|(intro h;have hh:=C6.out (by simpa using h);simp[hh];done)|(intro _;simp[hl5];done)):P:=h
theorem sj (c:Cfg) (s:Ss) (w:World) (hs:SsAt w s) (ho:SsOk s):Calls prog 26 #[.agg (bV c s)] w (CR c s w):=by
 obtain⟨W0,hW0⟩:∃W0,(w.alloc (.cells (bV c s) 31)).alloc (.cells #[.int .u8 0,.int .i64 0,.int .i64 0,.int .i64 0,.int .i64 0,.int .i64 0,.int .i64 0,.int .i64 0,.int .i64 0,.int .i64 0,.slice none 0 0,.slice none 0 0,.slice none 0 0,.slice none 0 0,.int .u64 0] 31)=W0:=⟨_,rfl⟩
 have hb0:Below w.heap.size w W0:=by rw[<-hW0];exact((Lg _ _).alloc (Lf _) _).alloc (by simp) _
 have b0:Blk W0 w.heap.size 31 #[.int .u8 c.tag,.int .i64 c.most,.int .i64 c.seg,.int .i64 c.least,.int .i64 c.den,.int .i64 c.leafLow,.int .i64 c.rootLow,.int .i64 c.rootHigh,.int .i64 c.leafHigh,.int .i64 s.seg,.slice s.wA s.ws.length s.wc,.slice s.kA s.ks.length s.kc,.slice s.vA s.vs.length s.vc,.slice s.cA s.cs.length s.cc,.int .u64 s.laid]:=by rw[<-hW0];exact(Blk.new _ _ _).alloc _
 have br0:Blk W0 (w.heap.size+1) 31 #[.int .u8 0,.int .i64 0,.int .i64 0,.int .i64 0,.int .i64 0,.int .i64 0,.int .i64 0,.int .i64 0,.int .i64 0,.int .i64 0,.slice none 0 0,.slice none 0 0,.slice none 0 0,.slice none 0 0,.int .u64 0]:=by
  rw[<-hW0]
  have:=Blk.new (w.alloc (.cells (bV c s) 31)) 31 #[.int .u8 0,.int .i64 0,.int .i64 0,.int .i64 0,.int .i64 0,.int .i64 0,.int .i64 0,.int .i64 0,.int .i64 0,.int .i64 0,.slice none 0 0,.slice none 0 0,.slice none 0 0,.slice none 0 0,.int .u64 0]
  rwa [Ls]at this
 have HTW:=Lc (fun W (h:Below w.heap.size w W)=>BM s W (hs.below h) ho)
 have HW0:=Lc hW0
 have HB0:=Lc hb0
 have HC0:=Lc b0
 have HR0:=Lc br0
 clear hW0 hb0 b0 br0 hs ho
 go_enter func26,ntmps26
 go_upto_region 1 with fail
 rw[HW0.out]
 refine aM (by kernel_rfl) (by kernel_rfl) (fun L a W=>∃(t3 t4 t5 t6 t7 t8:Value) (s2:Ss),a=⟨#[(.agg (bV c s)),(.pointer (some ⟨w.heap.size,0,none⟩)),(.pointer (some ⟨w.heap.size+1,0,none⟩)),t3,t4,t5,t6,t7,t8],[]⟩/\Below w.heap.size w W/\(L 6=false->Blk W w.heap.size 31 #[.int .u8 c.tag,.int .i64 c.most,.int .i64 c.seg,.int .i64 c.least,.int .i64 c.den,.int .i64 c.leafLow,.int .i64 c.rootLow,.int .i64 c.rootHigh,.int .i64 c.leafHigh,.int .i64 s.seg,.slice s.wA s.ws.length s.wc,.slice s.kA s.ks.length s.kc,.slice s.vA s.vs.length s.vc,.slice s.cA s.cs.length s.cc,.int .u64 s.laid]/\Blk W (w.heap.size+1) 31 #[.int .u8 0,.int .i64 0,.int .i64 0,.int .i64 0,.int .i64 0,.int .i64 0,.int .i64 0,.int .i64 0,.int .i64 0,.int .i64 0,.slice none 0 0,.slice none 0 0,.slice none 0 0,.slice none 0 0,.int .u64 0])/\(L 0=true->t3= .pointer (some ⟨w.heap.size,0,none⟩))/\(L 1=true->t4= .agg #[.int .u8 c.tag,.int .i64 c.most,.int .i64 c.seg,.int .i64 c.least,.int .i64 c.den,.int .i64 c.leafLow,.int .i64 c.rootLow,.int .i64 c.rootHigh,.int .i64 c.leafHigh])/\(L 2=true->t5= .pointer (some ⟨w.heap.size,9,none⟩))/\(L 3=true->t6= .agg #[.int .i64 s.seg,.slice s.wA s.ws.length s.wc,.slice s.kA s.ks.length s.kc,.slice s.vA s.vs.length s.vc,.slice s.cA s.cs.length s.cc,.int .u64 s.laid])/\(L 4=true->t7= .agg #[.int .i64 s2.seg,.slice s2.wA s2.ws.length s2.wc,.slice s2.kA s2.ks.length s2.kc,.slice s2.vA s2.vs.length s2.vc,.slice s2.cA s2.cs.length s2.cc,.int .u64 s2.laid]/\Held (fun k=>k< w.heap.size+2) (fun W=>SsLike s s2/\SsAt W s2) W)/\(L 5=true->t8= .agg #[.int .u8 c.tag,.int .i64 c.most,.int .i64 c.seg,.int .i64 c.least,.int .i64 c.den,.int .i64 c.leafLow,.int .i64 c.rootLow,.int .i64 c.rootHigh,.int .i64 c.leafHigh,.int .i64 s2.seg,.slice s2.wA s2.ws.length s2.wc,.slice s2.kA s2.ks.length s2.kc,.slice s2.vA s2.vs.length s2.vc,.slice s2.cA s2.cs.length s2.cc,.int .u64 s2.laid])/\(L 6=true->Blk W (w.heap.size+1) 31 #[.int .u8 c.tag,.int .i64 c.most,.int .i64 c.seg,.int .i64 c.least,.int .i64 c.den,.int .i64 c.leafLow,.int .i64 c.rootLow,.int .i64 c.rootHigh,.int .i64 c.leafHigh,.int .i64 s2.seg,.slice s2.wA s2.ws.length s2.wc,.slice s2.kA s2.ks.length s2.kc,.slice s2.vA s2.vs.length s2.vc,.slice s2.cA s2.cs.length s2.cc,.int .u64 s2.laid])/\(L 1=true->L 0=true)/\(L 3=true->L 2=true)/\(L 4=true->L 3=true)/\(L 5=true->L 1=true/\L 4=true)/\(L 6=true->L 5=true)) ?h0 ?hstep ?hend
 case h0=>exact⟨undef,undef,undef,undef,undef,undef,s,rfl,HB0.out.drew,fun _=>⟨HC0.out,HR0.out⟩,fun h=>absurd h Ld,fun h=>absurd h Ld,fun h=>absurd h Ld,fun h=>absurd h Ld,fun h=>absurd h Ld,fun h=>absurd h Ld,fun h=>absurd h Ld,fun h=>absurd h Ld,fun h=>absurd h Ld,fun h=>absurd h Ld,fun h=>absurd h Ld,fun h=>absurd h Ld⟩
 case hend=>
  rintro L a W hall ⟨t3,t4,t5,t6,t7,t8,s2,rfl,hb,hst,f0,f1,f2,f3,f4,f5,f6,c1,c3,c4,c5,c6⟩
  have z0:=f0 (hall 0 (by decide))
  have z1:=f1 (hall 1 (by decide))
  have z2:=f2 (hall 2 (by decide))
  have z3:=f3 (hall 3 (by decide))
  have z4:=f4 (hall 4 (by decide))
  have z5:=f5 (hall 5 (by decide))
  have z6:=f6 (hall 6 (by decide))
  clear hall hst f0 f1 f2 f3 f4 f5 f6 c1 c3 c4 c5 c6
  have HR3:=Lc z6
  have HH4:=Lc z4.2
  have HB3:=Lc hb
  clear z0 z1 z2 z3 z4 z5 z6 hb
  have p0:=HR3.out.cell
  go_wp2_with fail
  refine Li (v:= .agg #[.int .u8 c.tag,.int .i64 c.most,.int .i64 c.seg,.int .i64 c.least,.int .i64 c.den,.int .i64 c.leafLow,.int .i64 c.rootLow,.int .i64 c.rootHigh,.int .i64 c.leafHigh,.int .i64 s2.seg,.slice s2.wA s2.ws.length s2.wc,.slice s2.kA s2.ks.length s2.kc,.slice s2.vA s2.vs.length s2.vc,.slice s2.cA s2.cs.length s2.cc,.int .u64 s2.laid]) (by simp[results,results26,go_sem,(p0 0),(p0 1),(p0 2),(p0 3),(p0 4),(p0 5),(p0 6),(p0 7),(p0 8),(p0 9),(p0 10),(p0 11),(p0 12),(p0 13),(p0 14)]) rfl ?_
  exact⟨s2,rfl,HH4.out.now.1,Held.join (aS HH4.out (fun _ h=>h.2)) (Mod.refl _ _) (fun k _ hx=>Nat.lt_of_lt_of_le hx (Nat.le_add_right _ _)),HB3.out⟩
 case hstep=>
  rintro L a W i o ho hLi hdep ⟨t3,t4,t5,t6,t7,t8,s2,rfl,hb,hst,f0,f1,f2,f3,f4,f5,f6,c1,c3,c4,c5,c6⟩
  have HST:=Lc hst
  have F0:=Lc f0
  have F1:=Lc f1
  have F2:=Lc f2
  have F3:=Lc f3
  have F4:=Lc f4
  have F5:=Lc f5
  have F6:=Lc f6
  have C1:=Lc c1
  have C3:=Lc c3
  have C4:=Lc c4
  have C5:=Lc c5
  have C6:=Lc c6
  have HB:=Lc hb
  clear hb hst f0 f1 f2 f3 f4 f5 f6 c1 c3 c4 c5 c6
  have HLi:=Lc hLi
  clear hLi
  match i,ho with
  |0,ho=>
   obtain rfl:=Le ho
   clear hdep
   have hlast:L 6=false:=by
    cases h:L 6 with
    |false=>rfl
    |true=>exact absurd ((C1.out (C5.out (C6.out h)).1)) (by rw[HLi.out];exact Ld)
   obtain⟨hg,hg1⟩:=HST.out hlast
   have HG:=Lc hg
   have HG1:=Lc hg1
   clear hg hg1
   refine Lj rfl (fun K1 hK1=>?_)
   have hK:=Lc hK1
   clear hK1
   go_wp2_with fail
   refine hK.out _ _ ?_;exact mX
  |1,ho=>
   obtain rfl:=Le ho
   have hl0:=hdep ⟨0,.data⟩ (by simp) rfl
   obtain rfl:=F0.out hl0
   clear hdep
   have hlast:L 6=false:=by
    cases h:L 6 with
    |false=>rfl
    |true=>exact absurd ((C5.out (C6.out h)).1) (by rw[HLi.out];exact Ld)
   obtain⟨hg,hg1⟩:=HST.out hlast
   have HG:=Lc hg
   have HG1:=Lc hg1
   clear hg hg1
   refine Lj rfl (fun K1 hK1=>?_)
   have hK:=Lc hK1
   clear hK1
   refine eO rfl 24 (.tmp 3) rfl w.heap.size 0 rfl [.int .u8 c.tag,.int .i64 c.most,.int .i64 c.seg,.int .i64 c.least,.int .i64 c.den,.int .i64 c.leafLow,.int .i64 c.rootLow,.int .i64 c.rootHigh,.int .i64 c.leafHigh] _ (ae HG.out 0 9 rfl) underlying24 rfl bf ?_
   refine hK.out _ _ ?_;exact mX
  |2,ho=>
   obtain rfl:=Le ho
   clear hdep
   have hlast:L 6=false:=by
    cases h:L 6 with
    |false=>rfl
    |true=>exact absurd ((C3.out (C4.out (C5.out (C6.out h)).2))) (by rw[HLi.out];exact Ld)
   obtain⟨hg,hg1⟩:=HST.out hlast
   have HG:=Lc hg
   have HG1:=Lc hg1
   clear hg hg1
   refine Lj rfl (fun K1 hK1=>?_)
   have hK:=Lc hK1
   clear hK1
   go_wp2_with fail
   refine hK.out _ _ ?_;exact mX
  |3,ho=>
   obtain rfl:=Le ho
   have hl2:=hdep ⟨2,.data⟩ (by simp) rfl
   obtain rfl:=F2.out hl2
   clear hdep
   have hlast:L 6=false:=by
    cases h:L 6 with
    |false=>rfl
    |true=>exact absurd ((C4.out (C5.out (C6.out h)).2)) (by rw[HLi.out];exact Ld)
   obtain⟨hg,hg1⟩:=HST.out hlast
   have HG:=Lc hg
   have HG1:=Lc hg1
   clear hg hg1
   refine Lj rfl (fun K1 hK1=>?_)
   have hK:=Lc hK1
   clear hK1
   refine eO rfl 29 (.tmp 5) rfl w.heap.size 9 rfl [.int .i64 s.seg,.slice s.wA s.ws.length s.wc,.slice s.kA s.ks.length s.kc,.slice s.vA s.vs.length s.vc,.slice s.cA s.cs.length s.cc,.int .u64 s.laid] _ (ae HG.out 9 6 rfl) underlying29 rfl eQ ?_
   refine hK.out _ _ ?_;exact mX
  |4,ho=>
   obtain rfl:=Le ho
   have hl3:=hdep ⟨3,.data⟩ (by simp) rfl
   obtain rfl:=F3.out hl3
   clear hdep
   have hlast:L 6=false:=by
    cases h:L 6 with
    |false=>rfl
    |true=>exact absurd ((C5.out (C6.out h)).2) (by rw[HLi.out];exact Ld)
   obtain⟨hg,hg1⟩:=HST.out hlast
   have HG:=Lc hg
   have HG1:=Lc hg1
   clear hg hg1
   refine Lj rfl (fun K1 hK1=>?_)
   have hK:=Lc hK1
   clear hK1
   go_wp2_with (go_at_call 50;refine(HTW.out _ HB.out).mono ?_;rintro e1 W1 ⟨s3,rfl,hl2,hh2,hb1⟩)
   refine hK.out _ _ ?_;exact mX
  |5,ho=>
   obtain rfl:=Le ho
   have hl1:=hdep ⟨1,.data⟩ (by simp) rfl
   obtain rfl:=F1.out hl1
   have hl4:=hdep ⟨4,.data⟩ (by simp) rfl
   have zz4:=Lc (F4.out hl4).2
   obtain rfl:=(F4.out hl4).1
   clear hdep
   have hlast:L 6=false:=by
    cases h:L 6 with
    |false=>rfl
    |true=>exact absurd ((C6.out h)) (by rw[HLi.out];exact Ld)
   obtain⟨hg,hg1⟩:=HST.out hlast
   have HG:=Lc hg
   have HG1:=Lc hg1
   clear hg hg1
   refine Lj rfl (fun K1 hK1=>?_)
   have hK:=Lc hK1
   clear hK1
   go_wp2_with fail
   refine hK.out _ _ ?_;exact mX
  |6,ho=>
   obtain rfl:=Le ho
   have hl5:=hdep ⟨5,.data⟩ (by simp) rfl
   obtain rfl:=F5.out hl5
   clear hdep
   have hlast:=HLi.out
   obtain⟨hg,hg1⟩:=HST.out hlast
   have HG:=Lc hg
   have HG1:=Lc hg1
   clear hg hg1
   refine Lj rfl (fun K1 hK1=>?_)
   have hK:=Lc hK1
   clear hK1
   refine aP rfl 31 (.tmp 2) (.tmp 8) rfl (w.heap.size+1) 0 #[.int .u8 c.tag,.int .i64 c.most,.int .i64 c.seg,.int .i64 c.least,.int .i64 c.den,.int .i64 c.leafLow,.int .i64 c.rootLow,.int .i64 c.rootHigh,.int .i64 c.leafHigh,.int .i64 s2.seg,.slice s2.wA s2.ws.length s2.wc,.slice s2.kA s2.ks.length s2.kc,.slice s2.vA s2.vs.length s2.vc,.slice s2.cA s2.cs.length s2.cc,.int .u64 s2.laid] rfl rfl (bI HG1.out 0 15 (by simp)) bF (all_oneCell_toArray (by simp[LD])) ?_
   refine hK.out _ _ ?_;exact mX
def fO (c:Cfg) (s:Ss):Int:=if qB c s=0 then mf s else qB c s
theorem JP (w:World) (c:Cfg) (s:Ss):∃W,w.alloc (.cells (bV c s) 31)=W/\Below w.heap.size w W/\Blk W w.heap.size 31 (bV c s):=⟨_,rfl,(Lg _ _).alloc (Lf _) _,Blk.new _ _ _⟩
theorem JF {P:Prop} (h:P:=by
  obtain⟨R,hR⟩:∃R,fO c s=R:=⟨_,rfl⟩
  rw[hR]
  unfold fO at hR
  first|(have mz:=mk0;clear mz;have h1:=fun W (h:SsAt W s)=>wF c s W h ho hcap)|(have mz:=mk1;clear mz;have h1:=fun W (h:SsAt W s)=>yA c s W h ho)
  first|(have mz:=mk0;clear mz;have h2:=fun W (h:SsAt W s)=>mJ s W h ho)|(have mz:=mk1;clear mz;have h2:=fun W (h:SsAt W s)=>xE s W h ho)
  obtain⟨E,hE⟩:∃E,qB c s=E:=⟨_,rfl⟩
  obtain⟨D,hD⟩:∃E,mf s=E:=⟨_,rfl⟩
  rw[hE]at h1 hR
  rw[hD]at h2 hR
  have H1:=Lc h1
  have H2:=Lc h2
  have HR:=Lc hR
  obtain⟨W0,hW0,hb0,b0⟩:=JP w c s
  have HW0:=Lc hW0
  have HB0:=Lc hb0
  have HP0:=Lc b0
  have HSA:=Lc (hs.below hb0)
  clear hW0 hb0 b0 hs ho h1 h2 hR hE hD
  first|go_enter func191,ntmps191|go_enter func100,ntmps100
  go_upto_region 1 with fail
  rw[HW0.out]
  try dsimp only[]
  repeat (first|refine ldb HP0.out 0 underlying24 bf rfl rfl rfl rfl ?_|refine ldb HP0.out 9 underlying29 eQ rfl rfl rfl rfl ?_|go_values|go_skip|go_guarded|go_step|go_upon)
  refine(H1.out _ HSA.out).mono ?_
  rintro e w1 ⟨rfl,hb1⟩
  have HB1:=Lc (aa HB0.out hb1)
  have HP1:=Lc (HP0.out.below hb1 HP0.out.lt)
  have HSB:=Lc (HSA.out.below hb1)
  clear hb1 HB0 HP0 HSA
  by_cases he:E=0
  case neg=>
   obtain rfl:R=E:=by rw[<-HR.out,if_neg he]
   go_wp2_with fail
   go_ret
   exact⟨rfl,HB1.out⟩
  case pos=>
  subst he
  obtain rfl:R=D:=HR.out.symm
  try dsimp only[]
  repeat (first|refine ldb HP1.out 9 underlying29 eQ rfl rfl rfl rfl ?_|go_values|go_skip|go_guarded|go_step|go_upon)
  refine(H2.out _ HSB.out).mono ?_
  rintro e w2 ⟨rfl,hb2⟩
  have HB2:=Lc (aa HB1.out hb2)
  clear hb2
  go_wp2_with fail
  go_ret
  exact⟨rfl,HB2.out⟩):P:=h
theorem kz (c:Cfg) (s:Ss) (w:World) (hs:SsAt w s) (ho:SsOk s) (hcap:s.cs.length<=s.cc):
  Calls prog 191 #[.agg (bV c s)] w fun r w'=>r= .returned (.int .i64 (fO c s))/\Below w.heap.size w w':=by
 have mk0:=()
 exact JF
theorem pQ (c:Cfg) (s:Ss) (w:World) (hs:SsAt w s) (ho:SsOk s):
  Calls prog 100 #[.agg (bV c s)] w fun r w'=>r= .returned (.int .i64 (fO c s))/\Below w.heap.size w w':=by
 have mk1:=()
 exact JF
theorem pO (c:Cfg) (s:Ss) (w:World) (hs:SsAt w s) (ho:SsOk s) (hm:bB s=true):
  Calls prog 89 #[.agg (bV c s)] w (dV (bu s) w):=by
 have h1:=fun W (h:SsAt W s)=>qW s 0 s.ks.length W h ho (dJ hm).1 (by omega) (by have:=(dJ hm).2.1;omega)
 rw[MZ]at h1
 change ∀W,SsAt W s->Calls _ _ _ W (dV (bu s) W)at h1
 obtain⟨L,hL⟩:∃L,bu s=L:=⟨_,rfl⟩
 rw[hL]at h1 ⊢
 have H1:=Lc h1
 obtain⟨W0,hW0,hb0,b0⟩:=JP w c s
 have HW0:=Lc hW0
 have HB0:=Lc hb0
 have HP0:=Lc b0
 have HSA:=Lc (hs.below hb0)
 clear hW0 hs ho hm h1 hL hb0
 have q11:W0.cell? ⟨w.heap.size,11,none⟩=some (.slice s.kA s.ks.length s.kc):=b0.cell 11
 clear b0
 go_enter func89,ntmps89
 go_upto_region 1 with fail
 rw[HW0.out]
 try dsimp only[]
 repeat (first|refine ldb HP0.out 9 underlying29 eQ rfl rfl rfl rfl ?_|go_values|go_skip|go_guarded|go_step|go_upon)
 refine(H1.out _ HSA.out).mono ?_
 rintro e w2 ⟨A1,c1,rfl,ho1,hb2⟩
 have HO1:=Lc (ay ho1 HB0.out.size)
 have HB2:=Lc (aa HB0.out hb2)
 clear ho1 hb2 q11
 go_wp2_with fail
 go_ret
 exact⟨A1,c1,rfl,HO1.out,HB2.out⟩
theorem ui (c:Cfg) (s:Ss) (w:World) (hs:SsAt w s) (ho:SsOk s) (hcap:s.cs.length<=s.cc) (hp:fO c s=0) (hm:bB s=true):
  Calls prog 192 #[.agg (bV c s)] w (fJ (bu s) 0 w):=by
 have h1:=fun W (h:SsAt W s)=>kz c s W h ho hcap
 rw[hp]at h1
 have h2:=fun W (h:SsAt W s)=>iI s 0 s.ks.length W h ho (by omega)
 rw[if_pos hm,if_pos hm,MZ]at h2
 change ∀W,SsAt W s->Calls _ _ _ W (fJ (bu s) 0 W)at h2
 obtain⟨L,hL⟩:∃L,bu s=L:=⟨_,rfl⟩
 rw[hL]at h2 ⊢
 have H1:=Lc h1
 have H2:=Lc h2
 obtain⟨W0,hW0,hb0,b0⟩:=JP w c s
 have HW0:=Lc hW0
 have HB0:=Lc hb0
 have HP0:=Lc b0
 have HSA:=Lc (hs.below hb0)
 clear hW0 hs ho hm h1 h2 hL hb0 hcap hp b0
 go_enter func192,ntmps192
 go_upto_region 1 with fail
 rw[HW0.out]
 try dsimp only[]
 repeat (first|refine ldb HP0.out 0 underlying31 bF rfl rfl rfl rfl ?_|go_values|go_skip|go_guarded|go_step|go_upon)
 refine(H1.out _ HSA.out).mono ?_
 rintro e w1 ⟨rfl,hb1⟩
 have HB1:=Lc (aa HB0.out hb1)
 have HP1:=Lc (HP0.out.below hb1 HP0.out.lt)
 have HSB:=Lc (HSA.out.below hb1)
 clear hb1 HB0 HP0 HSA
 have q11:w1.cell? ⟨w.heap.size,11,none⟩=some (.slice s.kA s.ks.length s.kc):=HP1.out.cell 11
 try dsimp only[]
 repeat (first|refine ldb HP1.out 9 underlying29 eQ rfl rfl rfl rfl ?_|go_values|go_skip|go_guarded|go_step|go_upon)
 refine(H2.out _ HSB.out).mono ?_
 rintro e w2 ⟨A1,c1,rfl,ho1,hb2⟩
 have HO1:=Lc (ay ho1 HB1.out.size)
 have HB2:=Lc (aa HB1.out hb2)
 clear ho1 hb2 q11
 go_wp2_with fail
 refine Li (v:= .tuple #[.slice A1 L.length c1,.int .i64 0]) (by simp[results,results192,go_sem]) rfl ?_
 exact⟨A1,c1,rfl,HO1.out,HB2.out⟩
def tZ:Nat->Nat->Nat->List Nat
 |0,_,r=>[r]
 |f+1,lv,r=>if lv<=1 then[r]else tZ f (lv/2) r++(L8 (2 ^ (lv/2))).flatMap fun i=>tZ f (lv-lv/2) (r*2 ^ (lv/2)+i)
theorem ma:∀(f g lv r:Nat),lv<=f+1->lv<=g+1->tZ f lv r=tZ g lv r
 |0,0,_,_,_,_=>rfl
 |0,g+1,lv,r,h,_=>by
  have h1:lv<=1:=by omega
  simp only[tZ,if_pos h1]
 |f+1,0,lv,r,_,h=>by
  have h1:lv<=1:=by omega
  simp only[tZ,if_pos h1]
 |f+1,g+1,lv,r,h1,h2=>by
  by_cases h:lv<=1
  ·simp only[tZ,if_pos h]
  ·simp only[tZ,if_neg h]
   rw[ma f g (lv/2) r (by omega) (by omega)]
   congr 2
   funext i
   exact ma f g _ _ (by omega) (by omega)
def bM (lv r:Nat):List Nat:=tZ lv lv r
theorem xe (r:Nat):bM 1 r=[r]:=rfl
theorem oJ {lv:Nat} (r:Nat) (h:2<=lv):bM lv r=bM (lv/2) r++(L8 (2 ^ (lv/2))).flatMap fun i=>bM (lv-lv/2) (r*2 ^ (lv/2)+i):=by
 obtain⟨f,rfl⟩:∃f,lv=f+1:=⟨lv-1,by omega⟩
 unfold bM
 rw[tZ,if_neg (by omega),ma f ((f+1)/2) _ _ (by omega) (by omega)]
 congr 2
 funext i
 exact ma _ _ _ _ (by omega) (by omega)
theorem xq {l:List Nat} {f:Nat->List Nat} {n:Nat} (h:∀i∈l,(f i).length=n):(l.flatMap f).length=l.length*n:=by
 induction l with
 |nil=>simp
 |cons x l ih=>
  rw[NE,List.length_append,h x (Mm),ih fun i hi=>h i (Lx _ hi),List.length_cons,M7,MO,Nat.add_comm]
theorem gN:∀(lv r:Nat),1<=lv->(bM lv r).length=2 ^ lv-1:=by
 intro lv
 induction lv using NA with
 |_ lv ih=>
  intro r h
  by_cases h1:lv=1
  ·subst h1;rfl
  ·rw[oJ r (by omega),List.length_append,ih _ (by omega) _ (by omega),xq (n:=2 ^ (lv-lv/2)-1) (fun i _=>ih _ (by omega) _ (by omega)),List.length_range,Nat.mul_sub,Nat.mul_one,<-MQ]
   rw[show lv/2+(lv-lv/2)=lv by omega]
   have h2:=M6 (lv/2)
   have h3:2 ^ (lv/2)<=2 ^ lv:=LQ (n:=2) (by decide) (by omega)
   omega
theorem Bp:∀lv,lv<=7->1<=lv->(bM lv 1).all (fun x=>decide (1<=x)&&decide (x<=2 ^ lv-1))=true:=by decide+kernel
theorem zt (lv:Nat) (w:World) (h1:1<=lv) (h2:lv<=7):Calls prog 248 #[.int .i64 (lv:Nat)] w fun r w'=>r= .returned (.int .i64 0)/\w'=w:=by
 have i1:¬(lv:Int)< 1:=by omega
 have i2:¬(14:Int)< (lv:Int):=by omega
 go_enter func248,ntmps248
 go_wp2_with fail
 go_ret
 exact⟨rfl,rfl⟩
theorem Eb (lv N:Nat) (w:World) (h1:1<=lv) (h2:lv<=7) (hN:2 ^ lv-1=N):Calls prog 246 #[.int .i64 (lv:Nat)] w fun r w'=>r= .returned (.tuple #[.int .i64 (N:Nat),.int .i64 0])/\w'=w:=by
 have HT:=Lc (fun W=>zt lv W h1 h2)
 have hp:=dO h2
 have hp0:=M6 lv
 obtain⟨Y,hY⟩:∃Y,2 ^ lv=Y:=⟨_,rfl⟩
 rw[hY]at hp hp0 hN
 have HY:=Lc (show 1*2 ^ lv=Y/\lv< 64/\Y<=1000000 from⟨by rw[MO,hY],by omega,by omega⟩)
 have hw1:IntKind.i64.wrap ((Y:Int)-1)=(N:Int):=by rw[Lh _ (by omega)];omega
 clear hp hp0 hY hN h1 h2
 go_enter func246,ntmps246
 go_wp2_with fail
 refine(HT.out _).mono ?_
 rintro e w1 ⟨rfl,hw⟩
 rw[hw]
 clear hw w1
 go_wp2_with (refine fZ rfl (.const (.int .i64 1)) (.tmp 10) _ rfl 1 lv Y HY.out.2.1 rfl rfl HY.out.1 HY.out.2.2 ?_)
 refine Li (v:= .tuple #[.int .i64 N,.int .i64 0]) (by simp[results,results246,go_sem]) rfl ?_
 exact⟨rfl,rfl⟩
theorem EI (lv u l:Nat) (w:World) (h1:2<=lv) (h2:lv<=7) (hu:lv/2=u) (hl:lv-lv/2=l):Calls prog 249 #[.int .i64 (lv:Nat)] w fun r w'=>r= .returned (.tuple #[.int .i64 (u:Nat),.int .i64 (l:Nat),.int .i64 0])/\w'=w:=by
 have HT:=Lc (fun W=>zt lv W (by omega) h2)
 have i1:¬(lv:Int)=1:=by omega
 have hw1:IntKind.i64.wrap ((lv:Int)+1)=((lv+1:Nat):Int):=by rw[Lh _ (by omega)];omega
 have j1:(lv:Int).tdiv 2=(u:Int):=by rw[Nn (by omega)];omega
 have j2:((lv+1:Nat):Int).tdiv 2=(l:Int):=by rw[Nn (by omega)];omega
 have j3:(lv:Int)/2=(u:Int):=by omega
 have j4:((lv+1:Nat):Int)/2=(l:Int):=by omega
 obtain⟨m,hm⟩:∃m,lv+1=m:=⟨_,rfl⟩
 rw[hm]at hw1 j2 j4
 have hw2:IntKind.i64.wrap (u:Int)=(u:Int):=Lh _ (by omega)
 have hw3:IntKind.i64.wrap (l:Int)=(l:Int):=Lh _ (by omega)
 clear hu hl h1 h2 hm
 go_enter func249,ntmps249
 go_wp2_with fail
 refine(HT.out _).mono ?_
 rintro e w1 ⟨rfl,hw⟩
 rw[hw]
 clear hw w1
 go_wp2_with fail
 refine Li (v:= .tuple #[.int .i64 u,.int .i64 l,.int .i64 0]) (by simp[results,results249,go_sem]) rfl ?_
 exact⟨rfl,rfl⟩
theorem qX (lv N:Nat) (w:World) (h2:lv<=7) (hN:2 ^ lv-1=N):Calls prog 134 #[.int .i64 (lv:Nat)] w fun r w'=>r= .returned (.int .i64 (N:Nat))/\w'=w:=by
 have hpo:=fun W=>jZ lv W (by omega)
 have hp:=dO h2
 have hp0:=M6 lv
 obtain⟨Y,hY⟩:∃Y,2 ^ lv=Y:=⟨_,rfl⟩
 rw[hY]at hp hp0 hN hpo
 have HPO:=Lc hpo
 have hw1:IntKind.i64.wrap ((Y:Int)-1)=(N:Int):=by rw[Lh _ (by omega)];omega
 clear hp hp0 hY hN h2 hpo
 go_enter func134,ntmps134
 go_wp2_with fail
 refine(HPO.out _).mono ?_
 rintro e w1 ⟨rfl,hw⟩
 rw[hw]
 clear hw w1
 go_wp2_with fail
 go_ret
 exact⟨rfl,rfl⟩
theorem wZ (lv F:Nat) (w:World) (h1:1<=lv) (h2:lv<=7) (hF:2 ^ (lv-1)=F):Calls prog 156 #[.int .i64 (lv:Nat)] w fun r w'=>r= .returned (.int .i64 (F:Nat))/\w'=w:=by
 have hpo:=fun W=>jZ (lv-1) W (by omega)
 rw[hF]at hpo
 have HPO:=Lc hpo
 obtain⟨k,hk⟩:∃k,lv-1=k:=⟨_,rfl⟩
 have hw1:IntKind.i64.wrap ((lv:Int)-1)=(k:Int):=by rw[Lh _ (by omega)];omega
 rw[hk]at HPO
 clear hF h1 h2 hpo hk
 go_enter func156,ntmps156
 go_wp2_with fail
 refine(HPO.out _).mono ?_
 rintro e w1 ⟨rfl,hw⟩
 rw[hw]
 clear hw w1
 go_wp2_with fail
 go_ret
 exact⟨rfl,rfl⟩
def vJ (p:Nat × Nat):List Value:=[nv p.1,nv p.2]
def pend (st:List (Nat × Nat)):List Nat:=st.reverse.flatMap fun p=>bM p.1 p.2
def mu (st:List (Nat × Nat)):Nat:=(st.map fun p=>2*(2 ^ p.1-1)-1).sum
theorem jR (st:List (Nat × Nat)) (p:Nat × Nat):pend (st++[p])=bM p.1 p.2++pend st:=by unfold pend;simp
theorem qM (st:List (Nat × Nat)) (p:Nat × Nat):mu (st++[p])=mu st+(2*(2 ^ p.1-1)-1):=by unfold mu;simp
def kD (u l r k:Nat):List (Nat × Nat):=(L8 k).map fun i=>(l,r*2 ^ u+2 ^ u-1-i)
theorem oL (u l r k:Nat):kD u l r (k+1)=kD u l r k++[(l,r*2 ^ u+2 ^ u-1-k)]:=by unfold kD;rw[List.range_succ,Nb];rfl
theorem CZ (u l r:Nat):∀k,mu (kD u l r k)=k*(2*(2 ^ l-1)-1)
 |0=>by simp[kD,mu]
 |k+1=>by rw[oL,qM,CZ u l r k,M7,MO]
theorem uK (u l r:Nat):∀k,k<=2 ^ u->pend (kD u l r k)=(List.range' (2 ^ u-k) k).flatMap fun i=>bM l (r*2 ^ u+i)
 |0,_=>by simp[kD,pend]
 |k+1,h=>by
  rw[oL,jR,uK u l r k (by omega),List.range'_succ,NE]
  rw[show 2 ^ u-(k+1)+1=2 ^ u-k by omega,show r*2 ^ u+2 ^ u-1-k=r*2 ^ u+(2 ^ u-(k+1))by omega]
theorem Fz (a b:List (Nat × Nat)):pend (a++b)=pend b++pend a:=by unfold pend;simp
theorem JU (a b:List (Nat × Nat)):mu (a++b)=mu a+mu b:=by unfold mu;simp
structure VebS (T:List Nat) (out:List Nat) (st:List (Nat × Nat)):Prop where
 eq:out++pend st=T
 lv:∀p∈st,1<=p.1/\p.1<=7
theorem Fh:∀(st:List (Nat × Nat)),(∀p∈st,1<=p.1/\p.1<=7)->st.length<=mu st/\mu st+st.length<=2*(pend st).length
 |[],_=>⟨Lf _,Lf _⟩
 |p::st,h=>by
  have ih:=Fh st fun q hq=>h q (Lx _ hq)
  have hp:=h p Mm
  have h1:=gN p.1 p.2 hp.1
  have h2:2 ^ 1<=2 ^ p.1:=LQ (n:=2) (by decide) hp.1
  have h3:mu (p::st)=(2*(2 ^ p.1-1)-1)+mu st:=by unfold mu;simp
  have h4:(pend (p::st)).length=(pend st).length+(bM p.1 p.2).length:=by unfold pend;simp[MJ]
  rw[h3,h4,h1,List.length_cons]
  omega
theorem G6:∀lv r,1<=lv->r∈bM lv r:=by
 intro lv
 induction lv using NA with
 |_ lv ih=>
  intro r h
  by_cases h1:lv=1
  ·subst h1;rw[xe];exact List.mem_singleton_self _
  ·rw[oJ r (by omega)]
   exact List.mem_append_left _ (ih _ (by omega) _ (by omega))
theorem IU {w:World} {A:Option Addr} {st:List (Nat × Nat)} {p:Nat × Nat} (h:Sl w A ((st++[p]).flatMap vJ)):∃b o,A=some ⟨b,o,none⟩/\w.cell? ⟨b,o+st.length*2,none⟩=some (.int .i64 (p.1:Nat))/\w.cell? ⟨b,o+st.length*2+1,none⟩=some (.int .i64 (p.2:Nat)):=by
 have hl:=aN vJ 2 (fun _=>rfl) st
 rw[MJ]at h
 rcases h with h0|⟨b,o,hA,_,hc⟩
 ·simp[vJ]at h0
 ·refine⟨b,o,hA,hc _ _ ?_,?_⟩
  ·rw[Mw (by omega),hl];simp[vJ,nv]
  ·rw[Nat.add_assoc];refine hc _ _ ?_
   rw[Mw (by omega),hl];simp[vJ,nv]
theorem vk {w:World} {B:Nat} {e:TypeId} {s:Nat} {A:Option Addr} {n c k:Nat} {xs ys:List Value} (h:w.ownsRow B e s (.slice A n c) n xs) (hk:k<=n) (hn:0< n) (hy:xs.take (k*s)=ys):w.ownsRow B e s (.slice A k c) k ys:=by
 obtain⟨hx,h0|⟨g,cap,cur,hv,h1,h2,h3,h4,h5,h6⟩⟩:=h
 ·omega
 ·cases hv
  have hks:k*s<=n*s:=Mg _ hk
  refine⟨by rw[<-hy,List.length_take];omega,.inr ⟨g,c,cur,rfl,h1,h2,by omega,h4,h5,?_⟩⟩
  rw[<-hy,<-h6,List.take_take,Nat.min_eq_left hks]
theorem BJ {w w':World} {base s n g:Nat} {e t:TypeId} {v:Value} {xs:List Value} {cs:Array Value} (hg:w.grownBy w' v.ownBlock) (ho:w.ownsRow base e s v n xs) (hb:Blk w g t cs) (hne:e≠t):Blk w' g t cs:=by
 refine hb.of (hg.block g hb.lt ?_)
 intro h
 rcases ho.2 with⟨rfl,_⟩|⟨k,cap,cur,rfl,_,hk,_⟩
 ·simp[Nt]at h
 ·simp[Nt]at h
  subst h
  have:=hk.symm.trans hb
  simp at this
  exact hne this.2
theorem nI {w w':World} {base base' s s' n n':Nat} {e t:TypeId} {v v':Value} {xs xs':List Value} (hg:w.grownBy w' v.ownBlock) (ho:w.ownsRow base e s v n xs) (hb:w.ownsRow base' t s' v' n' xs') (hne:e≠t):w'.ownsRow base' t s' v' n' xs':=by
 refine⟨hb.1,?_⟩
 rcases hb.2 with h1|⟨g,cap,cur,h1,h2,h3,h4⟩
 ·exact .inl h1
 ·exact .inr ⟨g,cap,cur,h1,h2,BJ hg ho h3 hne,h4⟩
def KU (T:List Nat) (lv:Nat) (w:World) (g:Nat) (a:Act) (wr:World):Prop:=
 ∃(out:List Nat) (st:List (Nat × Nat)) (A1 A2:Option Addr) (m1 m2 c1 c2:Nat) (u1 u4 u5 u6 u7 u8 u9 u10 u11 u12 u13 u14 u15 u16 u17 u18 u19 u20 u21 u22 u23 u24 u25 u26 u27 u28 u29 u30 u31 u32 u33 u34 u35 u36 u37 u38 u39 u40 u41 u42 u43 u44 u45 u46 u47 u48 u49 u50 u51 u52 u53 u54 u55 u56 u57 u58 u59 u60 u61 u62 u63 u64 u65 u66 u67 u68 u69:Value),a=⟨#[.int .i64 (lv:Nat),u1,.slice A1 m1 c1,.slice A2 m2 c2,u4,u5,u6,u7,u8,u9,u10,u11,u12,u13,u14,u15,u16,u17,u18,u19,u20,u21,u22,u23,u24,u25,u26,u27,u28,u29,u30,u31,u32,u33,u34,u35,u36,u37,u38,u39,u40,u41,u42,u43,u44,u45,u46,u47,u48,u49,u50,u51,u52,u53,u54,u55,u56,u57,u58,u59,u60,u61,u62,u63,u64,u65,u66,u67,u68,u69],[]⟩/\Hid (VebS T out st/\mu st<=g/\(m1=out.length/\m2=st.length)/\wr.ownsRow w.heap.size 3 1 (.slice A1 m1 c1) m1 (out.map nv)/\wr.ownsRow w.heap.size 291 2 (.slice A2 m2 c2) m2 (st.flatMap vJ)/\Below w.heap.size w wr)
theorem EM:(prog.info? 291).map (fun i=>(i.zero,i.size,i.bytes))=some (some (.agg #[.int .i64 0,.int .i64 0]),2,16):=by kernel_rfl
structure VebN (w W:World) (gB:Nat) (A:Option Addr) (c m:Nat) (xs:List Value) (A1:Option Addr) (m1 c1:Nat) (out:List Nat) (lp rp:Nat):Prop where
 bel:Below w.heap.size w W
 row:W.ownsRow w.heap.size 291 2 (.slice A m c) m xs
 out:W.ownsRow w.heap.size 3 1 (.slice A1 m1 c1) m1 (out.map nv)
 box:Blk W gB 291 #[.int .i64 (lp:Nat),.int .i64 (rp:Nat)]
 far:∀a,A=some a->a.block≠gB
theorem I7 {w:World} {B:Nat} {e:TypeId} {a:Addr} {n c:Nat} {xs:List Value} {x y:Value} (h:w.ownsRow B e 2 (.slice (some a) n c) n xs) (hn:0< n) (hb:Blk w a.block e #[x,y]):xs=[x,y]:=by
 obtain⟨hx,h0|⟨g,cap,cur,hv,h1,h2,h3,h4,h5,h6⟩⟩:=h
 ·cases h0.1
 ·cases hv
  have:=h2.symm.trans hb
  simp at this
  subst this
  simp at h5
  obtain rfl:n=1:=by omega
  simpa using h6.symm
theorem VebN.push {w W W1:World} {gB:Nat} {A:Option Addr} {c m:Nat} {xs:List Value} {A1:Option Addr} {m1 c1:Nat} {out:List Nat} {lp rp:Nat} {A2:Option Addr} {c2:Nat} {x y:Int} {v:Value}
  (h:VebN w W gB A c m xs A1 m1 c1 out lp rp) (hg:(W.drew.alloc (.cells #[.int .i64 x,.int .i64 y] 291)).grownBy W1 (Value.slice A m c).ownBlock) (ho:W1.ownsRow w.heap.size 291 2 v (m+1) (xs++[.int .i64 x,.int .i64 y])) (hx:x≠(lp:Int)) (hv:v= .slice A2 (m+1) c2):
  VebN w W1 gB A2 c2 (m+1) (xs++[.int .i64 x,.int .i64 y]) A1 m1 c1 out lp rp:=by
 subst hv
 have hsz:=h.bel.size
 have hrow:=(h.row.drew).alloc (.cells #[.int .i64 x,.int .i64 y] 291)
 have hbx:Blk W1 gB 291 #[.int .i64 (lp:Nat),.int .i64 (rp:Nat)]:=by
  have h1:Blk W.drew gB 291 #[.int .i64 (lp:Nat),.int .i64 (rp:Nat)]:=h.box
  refine(h1.alloc _).of (hg.block gB (h1.alloc _).lt ?_)
  intro e
  obtain⟨-,h0|⟨g0,cap,cur,hv,-⟩⟩:=h.row
  ·rw[h0.1]at e;simp[Nt]at e
  ·rw[hv]at e
   simp[Nt]at e
   cases hv
   exact h.far _ rfl e.symm
 refine⟨(h.bel.drew.alloc hsz _).grown hg (Lt hsz (by rw[Ls];exact MK _)) (fun q hq=>(hrow.lt q hq).1),ho,nI hg hrow ((h.out.drew).alloc _) (by decide),hbx,?_⟩
 intro a ha e
 subst ha
 rw[<-e]at hbx
 have h2:=I7 ho (Nat.succ_pos m) hbx
 have h3:xs=[]:=by
  have h4:=congrArg List.length h2
  rw[List.length_append]at h4
  simp at h4
  exact h4
 rw[h3]at h2
 simp at h2
 exact hx h2.1
theorem xu {o:Oper} {ops:Array Oper} {a:Act} {w:World} {K:Act->World->Prop} {Q:Exit->Act->World->Prop} {E:Prop} (hgd:o.guard=none) (s x:Operand) (ty:TypeId)
  (ho:o.op= .binOp .shl 3 s x ty) (X m Y:Nat) (hm:m< 64) (hs:a.eval s= .int .i64 (X:Nat)) (hx:a.eval x= .int .i64 (m:Nat)) (hY:X*2 ^ m=Y) (hb:Y<=1000000)
  (h:K (a.put o.dst (.int .i64 (Y:Nat))) w):if Mx o (yielded ops a.tmps)=true then Oper.wp prog o a w K Q else E:=by
 have hw:Mx o (yielded ops a.tmps)=true:=by simp[Mx,hgd]
 rw[if_pos hw]
 exact Fq s x ty ho X m Y hm hs hx hY hb h
theorem dY {P:Prop} (h:P:=by
  iterate 18 apply Exists.intro
  refine⟨rfl,?_,?_,?_,?_,?_,?_,?_,?_,?_,?_,?_,?_,?_,?_,?_,?_,?_,?_,?_,?_,?_,?_,?_,?_,?_,?_,?_,?_,?_,?_,?_⟩
  ·first|exact F0.out|exact fun _=>rfl
  ·first|exact F1.out|exact fun _=>rfl
  ·first|exact F2.out|exact fun _=>rfl
  ·first|exact F3.out|exact fun _=>rfl
  ·first|exact F4.out|exact fun _=>rfl
  ·first|exact F5.out|exact fun _=>rfl
  ·first|exact F6.out|exact fun _=>rfl
  ·first|exact F7.out|exact fun _=>rfl
  ·first|exact F8.out|exact fun _=>rfl
  ·first|exact F9.out|exact fun _=>rfl
  ·first|exact F10.out|exact fun _=>rfl
  ·first|exact F11.out|exact fun _=>rfl
  ·first|exact F12.out|exact fun _=>rfl
  ·first|exact F13.out|exact fun _=>rfl
  ·first|exact F14.out|exact fun _=>rfl|exact(fun h=>absurd (show L 14=true by simpa using h) (by intro h;exact absurd ((C14.out h).2) (by rw[HLi.out];exact Ld)))
  ·first|exact F15.out|exact fun _=>rfl|exact(fun h=>absurd (show L 15=true by simpa using h) (by intro h;exact absurd ((C14.out (C15.out h)).2) (by rw[HLi.out];exact Ld)))|exact(fun h=>absurd (show L 15=true by simpa using h) (by intro h;exact absurd ((C15.out h)) (by rw[HLi.out];exact Ld)))
  ·first|exact O15.out|exact fun _=>rfl|(intro h;refine absurd h ?_;simp;done;done)
  ·first|(intro h;have hh:=C3.out (by simpa using h);simp[hh];done)|(intro _;simp[hl2];done)
  ·first|(intro h;have hh:=C5.out (by simpa using h);simp[hh];done)|(intro _;simp[hl3,hl4];done)
  ·first|(intro h;have hh:=C7.out (by simpa using h);simp[hh];done)|(intro _;simp[hl6];done)
  ·first|(intro h;have hh:=C8.out (by simpa using h);simp[hh];done)|(intro _;simp[hl5,hl7];done)
  ·first|(intro h;have hh:=C9.out (by simpa using h);simp[hh];done)|(intro _;simp[hl8];done)
  ·first|(intro h;have hh:=C11.out (by simpa using h);simp[hh];done)|(intro _;simp[hl9,hl10];done)
  ·first|(intro h;have hh:=C12.out (by simpa using h);simp[hh];done)|(intro _;simp[hl1,hl11];done)
  ·first|(intro h;have hh:=C13.out (by simpa using h);simp[hh];done)|(intro _;simp[hl12];done)
  ·first|(intro h;have hh:=C14.out (by simpa using h);simp[hh];done)|(intro _;simp[hl0,hl13];done)
  ·first|(intro h;have hh:=C15.out (by simpa using h);simp[hh];done)|(intro _;simp[hl14];done)
  ·first|exact S12.out|exact fun _=>rfl|(intro h;refine absurd h ?_;simp;done;done)|(intro h;refine absurd h ?_;have hh:=hl13;simp[hh];done;done)|(intro h;refine absurd h ?_;have hh:=(C14.out hl14).2;simp[hh];done;done)
  ·first|exact fun _ _=>rfl|exact(fun h h2=>S13.out (by simpa using h) (by simpa using h2))|(intro h h2;refine absurd h2 ?_;simp;done;done)|(intro h h2;refine absurd h2 ?_;have hh:=hl14;simp[hh];done;done)
  ·first|exact fun _ _=>hnew|exact(fun h h2=>S14.out (by simpa using h) (by simpa using h2))|exact(fun h _=>absurd (show L 14=true by simpa using h) (by intro h;exact absurd ((C14.out h).2) (by rw[HLi.out];exact Ld)))|(intro h h2;refine absurd h2 ?_;simp;done;done)
  ·first|exact S15.out|exact fun _=>hst|exact(fun h=>absurd (show L 15=true by simpa using h) (by intro h;exact absurd ((C14.out (C15.out h)).2) (by rw[HLi.out];exact Ld)))|exact(fun h=>absurd (show L 15=true by simpa using h) (by intro h;exact absurd ((C15.out h)) (by rw[HLi.out];exact Ld)))):P:=h
theorem Ez (lv:Nat) (w:World) (h1:1<=lv) (h7:lv<=7):Calls prog 247 #[.int .i64 (lv:Nat)] w (jc 3 ((bM lv 1).map nv) (bM lv 1).length w):=by
 obtain⟨tp,hp,hp0,hp1,hp2⟩:=Mr EM
 obtain⟨ti,hi,hi0,hi1,hi2⟩:=Mr jX
 have HPI:=Lc (Lr hp (Lr hp0 (Lr hp1 hp2)))
 have HII:=Lc (Lr hi (Lr hi0 (Lr hi1 hi2)))
 have hle:=Bp lv h7 h1
 have hln:=gN lv 1 h1
 have hlm:=dO h7
 have h0:VebS (bM lv 1) [] [(lv,1)]:=⟨by simp[pend],fun p hp=>by simp at hp;subst hp;exact⟨h1,h7⟩⟩
 obtain⟨T,hT⟩:∃T,bM lv 1=T:=⟨_,rfl⟩
 rw[hT]at hle hln h0 ⊢
 have HT:=Lc (show(∀x∈T,x<=127)/\T.length<=127 from⟨fun x hx=>by
  rw[MV]at hle
  have:=hle x hx
  simp at this
  omega,by omega⟩)
 have H0:=Lc h0
 clear hle hln hlm hT h0 h1 h7 hp hp0 hp1 hp2 hi hi0 hi1 hi2
 go_enter func247,ntmps247
 go_wp2_with fail
 refine iG 0 (KU T lv w) rfl ?pass ?first
 case first=>
  rintro K hK
  have HK:=Lc hK
  clear hK
  have hb0:Below w.heap.size w (w.alloc (.cells #[.int .i64 (lv:Nat),.int .i64 1] 291)):=(Lg _ _).alloc (Lf _) _
  have ho:(w.alloc (.cells #[.int .i64 (lv:Nat),.int .i64 1] 291)).ownsRow w.heap.size 291 2 (.slice (some ⟨w.heap.size,0,none⟩) 1 1) 1 ([(lv,1)].flatMap vJ):=⟨rfl,.inr ⟨w.heap.size,1,_,rfl,Lf _,Blk.new w _ _,Lf _,by unfold maxLen;omega,rfl,rfl⟩⟩
  have HB0:=Lc hb0
  have HO:=Lc ho
  clear hb0 ho
  go_wp2_with fail
  go_step3
  rename_i hk
  exact hk _ _ (HK.out (mu [(lv,1)]) _ _ ⟨[],[(lv,1)],none,some ⟨w.heap.size,0,none⟩,0,1,0,1,_,_,_,_,_,_,_,_,_,_,_,_,_,_,_,_,_,_,_,_,_,_,_,_,_,_,_,_,_,_,_,_,_,_,_,_,_,_,_,_,_,_,_,_,_,_,_,_,_,_,_,_,_,_,_,_,_,_,_,_,_,_,_,_,_,_,_,rfl,H0.out,Lf _,⟨rfl,rfl⟩,World.ownsRow_nil _ _ _ _,HO.out,HB0.out⟩)
 case pass=>
  clear H0
  rintro g a' wr ⟨out,st,A1,A2,m1,m2,c1,c2,u1,u4,u5,u6,u7,u8,u9,u10,u11,u12,u13,u14,u15,u16,u17,u18,u19,u20,u21,u22,u23,u24,u25,u26,u27,u28,u29,u30,u31,u32,u33,u34,u35,u36,u37,u38,u39,u40,u41,u42,u43,u44,u45,u46,u47,u48,u49,u50,u51,u52,u53,u54,u55,u56,u57,u58,u59,u60,u61,u62,u63,u64,u65,u66,u67,u68,u69,rfl,hI⟩ K hK
  have HK:=Lc hK
  obtain⟨hv,hmu,⟨hm1,hm2⟩,ho1,ho2,hb⟩:=hI.out
  clear hK hI
  rcases List.eq_nil_or_concat st with hst|⟨st0,p,hst⟩
  ·subst hst
   have HR:=Lc (show out=T by have:=hv.eq;simpa[pend]using this)
   have hmz:m2=0:=hm2
   subst hmz
   have HM:=Lc hm1
   have HO:=Lc ho1
   have HB:=Lc hb
   clear hv hmu ho1 ho2 hb hm1 hm2
   go_wp2_with fail
   simp only[Exit.jump]
   refine Li (v:= .slice A1 m1 c1) (by simp[results,results247,go_sem]) rfl ?_
   have hm:=HM.out
   subst hm
   rw[<-HR.out]
   exact⟨A1,c1,rfl,HO.out,HB.out⟩
  ·rw[List.concat_eq_append]at hst
   subst hst
   have hpl:=hv.lv p (List.mem_append_right _ (List.mem_singleton_self p))
   have hml:=Fh _ hv.lv
   have hpd:(pend (st0++[p])).length<=127:=by
    have h2:=congrArg List.length hv.eq
    rw[List.length_append]at h2
    have:=HT.out.2
    omega
   have hlen:(st0++[p]).length=st0.length+1:=by simp
   rw[hlen]at hml hm2
   obtain⟨bA,oA,e2,d0,d1⟩:=IU (aA ho2)
   obtain⟨n,hn⟩:∃n,st0.length=n:=⟨_,rfl⟩
   rw[hn]at hml d0 d1 hm2
   obtain⟨lp,rp⟩:=p
   dsimp only at hpl d0 d1
   have hcap:=wI ho2
   have hn9:n<=300:=by omega
   have i1:¬(m2:Int)=0:=by omega
   have i3:(0:Int)<=(n:Int):=by omega
   have i4:(n:Int)< (m2:Int):=by omega
   have i5:(n:Int)<=(c2:Int):=by omega
   have hcz:¬c2=0:=by omega
   have hw1:IntKind.i64.wrap ((m2:Int)-1)=(n:Int):=by rw[Lh _ (by omega)];omega
   have HO1:=Lc ho1
   have HO2:=Lc ho2
   have HB:=Lc hb
   have HV:=Lc hv
   have HMU:=Lc hmu
   have HM1:=Lc hm1
   have HN:=Lc (show st0.length=n/\n+1=m2/\n<=300/\(1<=lp/\lp<=7)from⟨hn,hm2.symm,hn9,hpl⟩)
   subst e2
   clear ho1 ho2 hb hv hmu hn hn9 hpl hml hpd hlen hcap hm1 hm2
   go_upto_region 6 with fail
   by_cases h1:lp=1
   ·have i6:(lp:Int)=1:=by omega
    have HT2:=Lc (vk HO2.out (k:=n) (by have:=HN.out;omega) (by have:=HN.out;omega) (ys:=st0.flatMap vJ) (by
     have hl:=aN vJ 2 (fun _=>rfl) st0
     rw[MJ,HN.out.1]at*
     rw[List.take_append_of_le_length (by omega),LF (by omega)]))
    obtain⟨W5,hW5⟩:∃W,wr.alloc (.cells #[.int .i64 (lp:Nat),.int .i64 (rp:Nat)] 291)=W:=⟨_,rfl⟩
    have hb5:Below w.heap.size w W5:=by rw[<-hW5];exact HB.out.alloc HB.out.size _
    have ho5:W5.ownsRow w.heap.size 3 1 (.slice A1 m1 c1) m1 (out.map nv):=by rw[<-hW5];exact HO1.out.alloc _
    have ht5:W5.ownsRow w.heap.size 291 2 (.slice (some ⟨bA,oA,none⟩) n c2) n (st0.flatMap vJ):=by rw[<-hW5];exact HT2.out.alloc _
    have k5:Blk W5 wr.heap.size 291 #[.int .i64 (lp:Nat),.int .i64 (rp:Nat)]:=by rw[<-hW5];exact Blk.new _ _ _
    obtain⟨gB,hgB⟩:∃x,wr.heap.size=x:=⟨_,rfl⟩
    rw[hgB]at k5
    try rw[hgB]
    try rw[hW5]
    have b0:W5.cell? ⟨gB,0,none⟩=some (.int .i64 (lp:Nat)):=k5.cell 0
    have b1:W5.cell? ⟨gB,1,none⟩=some (.int .i64 (rp:Nat)):=k5.cell 1
    have HO5:=Lc ho5
    have HT5:=Lc ht5
    have HB5:=Lc hb5
    have HSZ:=Lc hb5.size
    clear ho5 ht5 hb5 k5 hW5 hgB HT2
    have HM9:=Lc (show m1<=127 by
     have h2:=congrArg List.length HV.out.eq
     rw[List.length_append]at h2
     have:=HT.out.2
     have:=HM1.out
     omega)
    clear i1 i3 i4 i5 hcz hw1 d0 d1
    go_wp2_with (at_builtin;refine ag _ rfl (.tmp 30) (.tmp 33) _ rfl w.heap.size 3 ti _ 1 8 underlying27 HII.out.1 HII.out.2.1 HII.out.2.2.1 HII.out.2.2.2 rfl (by omega) (.slice A1 m1 c1) _ _ rfl (HO5.out.alloc _) _ 1 _ [nv rp] rfl ((Blk.new W5 3 #[.int .i64 (rp:Nat)]).sl 0 [nv rp] (by intro j u hu;simpa[nv]using hu)) (by simp) (by simp[nv,LD]) (by unfold maxLen;have:=HM9.out;omega) (by have:=HM9.out;omega) (by have:=HSZ.out;simp;omega) ?_;intro v2 w2 hown2 hg2;obtain⟨A3,c3,rfl,-,-⟩:=ak hown2)
    have hb2:Below w.heap.size w w2:=(HB5.out.alloc HSZ.out _).grown hg2 (by have:=HSZ.out;simp;omega) (fun q hq=>(HO5.out.lt q hq).1)
    have ho3:=nI hg2 (HO5.out.alloc _) (HT5.out.alloc _) (by decide)
    have HO3:=Lc hown2
    have HO4:=Lc ho3
    have HB2:=Lc hb2
    have hmm:=qM st0 (lp,rp)
    have HGG:=Lc (show mu st0< g by rw[hmm]at HMU;have:=HMU.out;dsimp only at this;rw[h1]at this;omega)
    have HVV:=Lc (show VebS T (out++[rp]) st0 from⟨by rw[<-HV.out.eq,jR,h1,xe,Ny],fun q hq=>HV.out.lv q (List.mem_append_left _ hq)⟩)
    clear hown2 hg2 hb2 ho3 hmm i6
    go_wp2_with fail
    go_step3
    refine⟨rfl,HK.out (mu st0) _ _ HGG.out ⟨out++[rp],st0,A3,some ⟨bA,oA,none⟩,m1+1,n,c3,c2,_,_,_,_,_,_,_,_,_,_,_,_,_,_,_,_,_,_,_,_,_,_,_,_,_,_,_,_,_,_,_,_,_,_,_,_,_,_,_,_,_,_,_,_,_,_,_,_,_,_,_,_,_,_,_,_,_,_,_,_,_,_,_,_,_,_,_,rfl,HVV.out,Lf _,⟨by rw[HM1.out];simp,HN.out.1.symm⟩,by rw[Nb];exact HO3.out,HO4.out,HB2.out⟩⟩
   ·have i6:¬(lp:Int)=1:=by omega
    obtain⟨u,hu⟩:∃u,lp/2=u:=⟨_,rfl⟩
    obtain⟨l,hl⟩:∃l,lp-lp/2=l:=⟨_,rfl⟩
    have hlp:=HN.out.2.2.2
    have HSP:=Lc (fun W=>EI lp u l W (by omega) hlp.2 hu hl)
    have hlay:=oJ rp (show 2<=lp by omega)
    have hl2:lp-u=l:=by rw[<-hu];exact hl
    rw[hu,hl2]at hlay
    clear hl2
    have hmu2:=qM st0 (lp,rp)
    dsimp only at hmu2
    have hpl2:2 ^ lp=2 ^ u*2 ^ l:=by rw[<-MQ];congr 1;omega
    obtain⟨P,hP⟩:∃P,2 ^ u=P:=⟨_,rfl⟩
    have hP8:P<=128:=by rw[<-hP];exact dO (by omega)
    have hP0:0< P:=by rw[<-hP];exact M6 u
    obtain⟨L,hL⟩:∃P,2 ^ l=P:=⟨_,rfl⟩
    have hL2:2<=L:=by rw[<-hL];exact Lt (by decide) (LQ (n:=2) (i:=1) (by decide) (by omega))
    rw[hP,hL]at hpl2
    obtain⟨RU,hRU⟩:∃x,rp*2 ^ u=x:=⟨_,rfl⟩
    have hin:∀i,i< P->RU+i<=127:=fun i hi=>by
     refine HT.out.1 _ ?_
     rw[<-HV.out.eq,jR]
     dsimp only
     rw[hlay]
     refine List.mem_append_right _ (List.mem_append_left _ (List.mem_append_right _ ?_))
     rw[List.mem_flatMap]
     exact⟨i,List.mem_range.2 (by rw[hP];exact hi),by rw[<-hRU];exact G6 l _ (by omega)⟩
    have hRU9:=hin (P-1) (by omega)
    have HU:=Lc (show u< 64/\rp*2 ^ u=RU/\RU<=1000000/\1*2 ^ u=P/\P<=1000000 from⟨by omega,hRU,by omega,by rw[MO,hP],by omega⟩)
    have HPP:=Lc (Lr hP (Lr hP8 (Lr hP0 (Lr hL (Lr hL2 (Lr hpl2 hRU9))))))
    have HLAY:=Lc hlay
    have HMU2:=Lc hmu2
    have HLU:=Lc (show l≠lp/\1<=u/\u<=7/\1<=l/\l<=7 by omega)
    have HT2:=vk HO2.out (k:=n) (by have:=HN.out;omega) (by have:=HN.out;omega) (ys:=st0.flatMap vJ) (by
     have hl:=aN vJ 2 (fun _=>rfl) st0
     rw[MJ,HN.out.1]at*
     rw[List.take_append_of_le_length (by omega),LF (by omega)])
    have hbA:bA< wr.heap.size:=by
     obtain⟨-,h0|⟨g0,cap,cur,hv,h1,h2,-⟩⟩:=HO2.out
     ·have:=h0.2;have:=HN.out;omega
     ·cases hv;exact(Array.getElem?_eq_some_iff.1 h2).1
    obtain⟨W5,hW5⟩:∃W,wr.alloc (.cells #[.int .i64 (lp:Nat),.int .i64 (rp:Nat)] 291)=W:=⟨_,rfl⟩
    have hq:VebN w W5 wr.heap.size (some ⟨bA,oA,none⟩) c2 n (st0.flatMap vJ) A1 m1 c1 out lp rp:=by
     rw[<-hW5]
     exact⟨HB.out.alloc HB.out.size _,HT2.alloc _,HO1.out.alloc _,Blk.new _ _ _,fun a ha=>by cases ha;show bA≠wr.heap.size;omega⟩
    obtain⟨gB,hgB⟩:∃x,wr.heap.size=x:=⟨_,rfl⟩
    rw[hgB]at hq
    try rw[hgB]
    try rw[hW5]
    have HQ0:=Lc hq
    have b1:W5.cell? ⟨gB,0,none⟩=some (.int .i64 (lp:Nat)):=hq.box.cell 0
    clear HT2 hq hW5 hbA hgB hu hl hlp hlay hmu2 hpl2 hP hP8 hP0 hL hL2 hRU hin hRU9 i1 i3 i4 i5 hcz hw1 d0 d1
    go_wp2_with fail
    refine(HSP.out _).mono ?_
    rintro e w1 ⟨rfl,hw⟩
    rw[hw]
    clear hw w1 b1 i6
    go_wp2_with (refine fZ rfl (.const (.int .i64 1)) (.tmp 42) _ rfl 1 u P HU.out.1 rfl rfl HU.out.2.2.2.1 HU.out.2.2.2.2 ?_)
    go_loopw [3,44] (fun o i W=>∃(k m:Nat) (A:Option Addr) (c:Nat),k<=P/\i= .int .i64 k/\o= .slice A m c/\Hid (m=n+k)/\Hid (VebN w W gB A c m ((st0++kD u l rp k).flatMap vJ) A1 m1 c1 out lp rp)) (fun _ i _=>P-(intOf i).toNat)
    case atStart=>exact⟨0,n,some ⟨bA,oA,none⟩,c2,LC _,rfl,rfl,rfl,by show VebN _ _ _ _ _ _ _ _ _ _ _ _ _;rw[show kD u l rp 0=[]from rfl,List.append_nil];exact HQ0.out⟩
    case round=>
     obtain⟨k,m,A,c,hk,rfl,rfl,HMK,HQ⟩:=hrel
     have d1:wr.cell? ⟨gB,1,none⟩=some (.int .i64 (rp:Nat)):=HQ.out.box.cell 1
     by_cases hlt:k< P
     ·have i1:(k:Int)< (P:Int):=by omega
      have hx:=HPP.out.2.2.2.2.2.2
      obtain⟨X1,hX1⟩:∃x,RU+P=x:=⟨_,rfl⟩
      obtain⟨X2,hX2⟩:∃x,X1-1=x:=⟨_,rfl⟩
      obtain⟨V,hV⟩:∃x,X2-k=x:=⟨_,rfl⟩
      have HV9:=Lc (show rp*2 ^ u+2 ^ u-1-k=V by rw[HU.out.2.1,HPP.out.1,hX1,hX2,hV])
      have hlw:=oL u l rp k
      rw[HV9.out]at hlw
      have HLS:=Lc (show(st0++kD u l rp (k+1)).flatMap vJ=(st0++kD u l rp k).flatMap vJ++[.int .i64 (l:Nat),.int .i64 (V:Nat)]by rw[hlw,<-Ny,MJ];simp[vJ,nv])
      have HM8:=Lc (show m<=1000 by have:=HMK.out;have:=HN.out;have:=HPP.out;omega)
      have HLN:=Lc (show(l:Int)≠(lp:Int)by have:=HLU.out.1;omega)
      have hw9:=aT k (by have:=HPP.out;omega)
      have y1:IntKind.i64.wrap ((RU:Int)+(P:Int))=(X1:Int):=by rw[Lh _ (by omega)];omega
      have y2:IntKind.i64.wrap ((X1:Int)-1)=(X2:Int):=by rw[Lh _ (by omega)];omega
      have y3:IntKind.i64.wrap ((X2:Int)-(k:Int))=(V:Int):=by rw[Lh _ (by omega)];omega
      have HLT:=Lc hlt
      have HW9:=Lc hw9
      clear hx hX1 hX2 hV hlw hw9 hlt
      go_upto_region 12 with fail
      refine aM (by kernel_rfl) (by kernel_rfl) (fun L a W=>∃(t47 t48 t49 t50 t51 t52 t53 t54 t55 t56 t57 t58 t59 t60 t61 t3:Value) (A61:Option Addr) (c61:Nat),a=⟨#[.int .i64 ((lv:Nat):Int),u1,.slice A1 m1 c1,t3,.pointer (some ⟨gB,0,none⟩),.int .i64 ((u:Nat):Int),.int .i64 ((l:Nat):Int),.int .i64 0,.int .i64 ((k:Nat):Int),u9,u10,u11,.slice (some ⟨bA,oA,none⟩) m2 c2,.int .i64 ((m2:Nat):Int),.bool false,u15,.slice (some ⟨bA,oA,none⟩) m2 c2,.slice (some ⟨bA,oA,none⟩) m2 c2,.int .i64 ((m2:Nat):Int),.int .i64 ((n:Nat):Int),.pointer (some ⟨bA,oA+n*2,none⟩),Value.agg #[.int .i64 ((lp:Nat):Int),.int .i64 ((rp:Nat):Int)],.slice (some ⟨bA,oA,none⟩) m2 c2,.slice (some ⟨bA,oA,none⟩) m2 c2,.int .i64 ((m2:Nat):Int),.int .i64 ((n:Nat):Int),.slice (some ⟨bA,oA,none⟩) n c2,.pointer (some ⟨gB,0,none⟩),.int .i64 ((lp:Nat):Int),.bool false,u30,u31,u32,u33,u34,Value.tuple #[.int .i64 ((u:Nat):Int),.int .i64 ((l:Nat):Int),.int .i64 0],.pointer (some ⟨gB,0,none⟩),.int .i64 ((lp:Nat):Int),Value.tuple #[.int .i64 ((u:Nat):Int),.int .i64 ((l:Nat):Int),.int .i64 0],.int .i64 ((u:Nat):Int),.int .i64 ((l:Nat):Int),.int .i64 0,.int .i64 ((u:Nat):Int),.int .i64 ((P:Nat):Int),.int .i64 ((k:Nat):Int),.bool true,.int .i64 ((k:Nat):Int),t47,t48,t49,t50,t51,t52,t53,t54,t55,t56,t57,t58,t59,t60,t61,u62,u63,u64,u65,u66,u67,u68,u69],[]⟩/\(L 0=true->t47= .slice A m c)/\(L 1=true->t48= .int .i64 (l:Nat))/\(L 2=true->t49= .pointer (some ⟨gB,1,none⟩))/\(L 3=true->t50= .int .i64 (rp:Nat))/\(L 4=true->t51= .int .i64 (u:Nat))/\(L 5=true->t52= .int .i64 (RU:Nat))/\(L 6=true->t53= .int .i64 (u:Nat))/\(L 7=true->t54= .int .i64 (P:Nat))/\(L 8=true->t55= .int .i64 (X1:Nat))/\(L 9=true->t56= .int .i64 (X2:Nat))/\(L 10=true->t57= .int .i64 (k:Nat))/\(L 11=true->t58= .int .i64 (V:Nat))/\(L 12=true->t59= .agg #[.int .i64 (l:Nat),.int .i64 (V:Nat)])/\(L 13=true->t60= .slice (some ⟨wr.heap.size,0,none⟩) 1 1)/\(L 14=true->t61= .slice A61 (m+1) c61)/\(L 15=true->t3= .slice A61 (m+1) c61)/\(L 15=false->t3= .slice A m c)/\(L 3=true->L 2=true)/\(L 5=true->L 3=true/\L 4=true)/\(L 7=true->L 6=true)/\(L 8=true->L 5=true/\L 7=true)/\(L 9=true->L 8=true)/\(L 11=true->L 9=true/\L 10=true)/\(L 12=true->L 1=true/\L 11=true)/\(L 13=true->L 12=true)/\(L 14=true->L 0=true/\L 13=true)/\(L 15=true->L 14=true)/\(L 13=false->W=wr.drew)/\(L 13=true->L 14=false->W=wr.drew.alloc (.cells #[.int .i64 (l:Nat),.int .i64 (V:Nat)] 291))/\(L 14=true->L 15=false->VebN w W gB A61 c61 (m+1) ((st0++kD u l rp (k+1)).flatMap vJ) A1 m1 c1 out lp rp)/\(L 15=true->VebN w W gB A61 c61 (m+1) ((st0++kD u l rp (k+1)).flatMap vJ) A1 m1 c1 out lp rp)) ?h0 ?hstep ?hend
      case h0=>exact⟨u47,u48,u49,u50,u51,u52,u53,u54,u55,u56,u57,u58,u59,u60,u61,Value.slice A m c,none,0,rfl,fun h=>absurd h Ld,fun h=>absurd h Ld,fun h=>absurd h Ld,fun h=>absurd h Ld,fun h=>absurd h Ld,fun h=>absurd h Ld,fun h=>absurd h Ld,fun h=>absurd h Ld,fun h=>absurd h Ld,fun h=>absurd h Ld,fun h=>absurd h Ld,fun h=>absurd h Ld,fun h=>absurd h Ld,fun h=>absurd h Ld,fun h=>absurd h Ld,fun h=>absurd h Ld,fun _=>rfl,fun h=>absurd h Ld,fun h=>absurd h Ld,fun h=>absurd h Ld,fun h=>absurd h Ld,fun h=>absurd h Ld,fun h=>absurd h Ld,fun h=>absurd h Ld,fun h=>absurd h Ld,fun h=>absurd h Ld,fun h=>absurd h Ld,fun _=>rfl,fun h _=>absurd h Ld,fun h _=>absurd h Ld,fun h=>absurd h Ld⟩
      case hend=>
       rintro L a W hall ⟨t47,t48,t49,t50,t51,t52,t53,t54,t55,t56,t57,t58,t59,t60,t61,t3,A61,c61,rfl,f0,f1,f2,f3,f4,f5,f6,f7,f8,f9,f10,f11,f12,f13,f14,f15,o15,c3,c5,c7,c8,c9,c11,c12,c13,c14,c15,s12,s13,s14,s15⟩
       obtain rfl:=f15 (hall 15 (by decide))
       have hst:=s15 (hall 15 (by decide))
       clear hall f0 f1 f2 f3 f4 f5 f6 f7 f8 f9 f10 f11 f12 f13 f14 f15 o15 c3 c5 c7 c8 c9 c11 c12 c13 c14 c15 s12 s13 s14 s15
       have HQ2:=Lc hst
       clear hst d1
       go_wp2_with fail
       go_roundw
       case rel=>exact⟨k+1,m+1,A61,c61,HLT.out,by rw[HW9.out],rfl,by show _=_;have:=HMK.out;omega,HQ2.out⟩
       case measure=>exact bO _ k HLT.out HW9.out
      case hstep=>
       rintro L a W i o ho hLi hdep ⟨t47,t48,t49,t50,t51,t52,t53,t54,t55,t56,t57,t58,t59,t60,t61,t3,A61,c61,rfl,f0,f1,f2,f3,f4,f5,f6,f7,f8,f9,f10,f11,f12,f13,f14,f15,o15,c3,c5,c7,c8,c9,c11,c12,c13,c14,c15,s12,s13,s14,s15⟩
       have F0:=Lc f0
       have F1:=Lc f1
       have F2:=Lc f2
       have F3:=Lc f3
       have F4:=Lc f4
       have F5:=Lc f5
       have F6:=Lc f6
       have F7:=Lc f7
       have F8:=Lc f8
       have F9:=Lc f9
       have F10:=Lc f10
       have F11:=Lc f11
       have F12:=Lc f12
       have F13:=Lc f13
       have F14:=Lc f14
       have F15:=Lc f15
       have O15:=Lc o15
       have C3:=Lc c3
       have C5:=Lc c5
       have C7:=Lc c7
       have C8:=Lc c8
       have C9:=Lc c9
       have C11:=Lc c11
       have C12:=Lc c12
       have C13:=Lc c13
       have C14:=Lc c14
       have C15:=Lc c15
       have S12:=Lc s12
       have S13:=Lc s13
       have S14:=Lc s14
       have S15:=Lc s15
       clear f0 f1 f2 f3 f4 f5 f6 f7 f8 f9 f10 f11 f12 f13 f14 f15 o15 c3 c5 c7 c8 c9 c11 c12 c13 c14 c15 s12 s13 s14 s15
       have HLi:=Lc hLi
       clear hLi
       match i,ho with
       |0,ho=>
        obtain rfl:=Le ho
        clear hdep
        have hz15:L 15=false:=by
         cases h:L 15 with
         |false=>rfl
         |true=>exact absurd ((C14.out (C15.out h)).1) (by rw[HLi.out];exact Ld)
        obtain rfl:=O15.out hz15
        refine Lj rfl (fun K1 hK1=>?_)
        have hK:=Lc hK1
        clear hK1
        go_wp2_with fail
        refine hK.out _ _ ?_;exact dY
       |1,ho=>
        obtain rfl:=Le ho
        clear hdep
        refine Lj rfl (fun K1 hK1=>?_)
        have hK:=Lc hK1
        clear hK1
        go_wp2_with fail
        refine hK.out _ _ ?_;exact dY
       |2,ho=>
        obtain rfl:=Le ho
        clear hdep
        refine Lj rfl (fun K1 hK1=>?_)
        have hK:=Lc hK1
        clear hK1
        go_wp2_with fail
        refine hK.out _ _ ?_;exact dY
       |3,ho=>
        obtain rfl:=Le ho
        have hl2:=hdep ⟨2,.data⟩ (by simp) rfl
        obtain rfl:=F2.out hl2
        clear hdep
        have hm0:L 13=false:=by
         cases h:L 13 with
         |false=>rfl
         |true=>exact absurd ((C5.out (C8.out (C9.out (C11.out (C12.out (C13.out h)).2).1)).1).1) (by rw[HLi.out];exact Ld)
        have hW:=S12.out hm0
        subst hW
        refine Lj rfl (fun K1 hK1=>?_)
        have hK:=Lc hK1
        clear hK1
        go_wp2_with fail
        refine hK.out _ _ ?_;exact dY
       |4,ho=>
        obtain rfl:=Le ho
        clear hdep
        refine Lj rfl (fun K1 hK1=>?_)
        have hK:=Lc hK1
        clear hK1
        go_wp2_with fail
        refine hK.out _ _ ?_;exact dY
       |5,ho=>
        obtain rfl:=Le ho
        have hl3:=hdep ⟨3,.data⟩ (by simp) rfl
        obtain rfl:=F3.out hl3
        have hl4:=hdep ⟨4,.data⟩ (by simp) rfl
        obtain rfl:=F4.out hl4
        clear hdep
        refine Lj rfl (fun K1 hK1=>?_)
        have hK:=Lc hK1
        clear hK1
        refine xu rfl (.tmp 50) (.tmp 51) _ rfl rp u RU HU.out.1 rfl rfl HU.out.2.1 HU.out.2.2.1 ?_
        refine hK.out _ _ ?_;exact dY
       |6,ho=>
        obtain rfl:=Le ho
        clear hdep
        refine Lj rfl (fun K1 hK1=>?_)
        have hK:=Lc hK1
        clear hK1
        go_wp2_with fail
        refine hK.out _ _ ?_;exact dY
       |7,ho=>
        obtain rfl:=Le ho
        have hl6:=hdep ⟨6,.data⟩ (by simp) rfl
        obtain rfl:=F6.out hl6
        clear hdep
        refine Lj rfl (fun K1 hK1=>?_)
        have hK:=Lc hK1
        clear hK1
        refine xu rfl (.const (.int .i64 1)) (.tmp 53) _ rfl 1 u P HU.out.1 rfl rfl HU.out.2.2.2.1 HU.out.2.2.2.2 ?_
        refine hK.out _ _ ?_;exact dY
       |8,ho=>
        obtain rfl:=Le ho
        have hl5:=hdep ⟨5,.data⟩ (by simp) rfl
        obtain rfl:=F5.out hl5
        have hl7:=hdep ⟨7,.data⟩ (by simp) rfl
        obtain rfl:=F7.out hl7
        clear hdep
        refine Lj rfl (fun K1 hK1=>?_)
        have hK:=Lc hK1
        clear hK1
        go_wp2_with fail
        refine hK.out _ _ ?_;exact dY
       |9,ho=>
        obtain rfl:=Le ho
        have hl8:=hdep ⟨8,.data⟩ (by simp) rfl
        obtain rfl:=F8.out hl8
        clear hdep
        refine Lj rfl (fun K1 hK1=>?_)
        have hK:=Lc hK1
        clear hK1
        go_wp2_with fail
        refine hK.out _ _ ?_;exact dY
       |10,ho=>
        obtain rfl:=Le ho
        clear hdep
        refine Lj rfl (fun K1 hK1=>?_)
        have hK:=Lc hK1
        clear hK1
        go_wp2_with fail
        refine hK.out _ _ ?_;exact dY
       |11,ho=>
        obtain rfl:=Le ho
        have hl9:=hdep ⟨9,.data⟩ (by simp) rfl
        obtain rfl:=F9.out hl9
        have hl10:=hdep ⟨10,.data⟩ (by simp) rfl
        obtain rfl:=F10.out hl10
        clear hdep
        refine Lj rfl (fun K1 hK1=>?_)
        have hK:=Lc hK1
        clear hK1
        go_wp2_with fail
        refine hK.out _ _ ?_;exact dY
       |12,ho=>
        obtain rfl:=Le ho
        have hl1:=hdep ⟨1,.data⟩ (by simp) rfl
        obtain rfl:=F1.out hl1
        have hl11:=hdep ⟨11,.data⟩ (by simp) rfl
        obtain rfl:=F11.out hl11
        clear hdep
        refine Lj rfl (fun K1 hK1=>?_)
        have hK:=Lc hK1
        clear hK1
        go_wp2_with fail
        refine hK.out _ _ ?_;exact dY
       |13,ho=>
        obtain rfl:=Le ho
        have hl12:=hdep ⟨12,.data⟩ (by simp) rfl
        obtain rfl:=F12.out hl12
        clear hdep
        have hst:=S12.out HLi.out
        refine Lj rfl (fun K1 hK1=>?_)
        have hK:=Lc hK1
        clear hK1
        subst hst
        go_wp2_with fail
        refine hK.out _ _ ?_;exact dY
       |14,ho=>
        obtain rfl:=Le ho
        have hl0:=hdep ⟨0,.data⟩ (by simp) rfl
        obtain rfl:=F0.out hl0
        have hl13:=hdep ⟨13,.data⟩ (by simp) rfl
        obtain rfl:=F13.out hl13
        clear hdep
        have hst:=S13.out hl13 HLi.out
        refine Lj rfl (fun K1 hK1=>?_)
        have hK:=Lc hK1
        clear hK1
        subst hst
        refine dP _ rfl (.tmp 47) (.tmp 60) 292 rfl w.heap.size 291 tp _ 2 16 underlying292 HPI.out.1 HPI.out.2.1 HPI.out.2.2.1 HPI.out.2.2.2 rfl (by omega) (.slice A m c) m _ rfl ((HQ.out.row.drew).alloc _) (some ⟨wr.heap.size,0,none⟩) 1 1 [.int .i64 (l:Nat),.int .i64 (V:Nat)] rfl ((Blk.new wr.drew _ _).sl 0 _ (by intro j u hu;simpa using hu)) (by rfl) (by simp[LD]) (by unfold maxLen;have:=HM8.out;omega) (by have:=HM8.out;omega) (Lt HQ.out.bel.size (by rw[Ls];exact MK _)) ?_
        intro v2 W1 hown2 hg2
        obtain⟨A9,c9,rfl,-,-⟩:=ak hown2
        have hnew:=HQ.out.push hg2 hown2 HLN.out rfl
        rw[<-HLS.out]at hnew
        refine hK.out _ _ ?_;exact dY
       |15,ho=>
        obtain rfl:=Le ho
        have hl14:=hdep ⟨14,.data⟩ (by simp) rfl
        obtain rfl:=F14.out hl14
        clear hdep
        have hst:=S14.out hl14 HLi.out
        refine Lj rfl (fun K1 hK1=>?_)
        have hK:=Lc hK1
        clear hK1
        go_wp2_with fail
        refine hK.out _ _ ?_;exact dY
     ·have hkP:k=P:=by omega
      have i1:¬(k:Int)< (P:Int):=by omega
      have HMK2:=Lc (show m=n+P by have:=HMK.out;omega)
      have hq:=HQ.out
      rw[hkP]at hq
      have HQ3:=Lc hq
      have HM8:=Lc (show m<=1000 by have:=HMK.out;have:=HN.out;have:=HPP.out;omega)
      have HSZ:=Lc hq.bel.size
      clear hq hkP hlt hk
      go_wp2_with (at_builtin;refine ag _ rfl (.tmp 63) (.tmp 68) _ rfl w.heap.size 291 tp _ 2 16 underlying292 HPI.out.1 HPI.out.2.1 HPI.out.2.2.1 HPI.out.2.2.2 rfl (by omega) (.slice A m c) _ _ rfl (HQ3.out.row.alloc _) _ 1 _ [.int .i64 (u:Nat),.int .i64 (rp:Nat)] rfl ((Blk.new _ _ _).sl 0 _ (by intro j u hu;simpa using hu)) (by simp) (by simp[LD]) (by unfold maxLen;have:=HM8.out;omega) (by have:=HM8.out;omega) (by have:=HSZ.out;simp;omega) ?_;intro v2 w2 hown2 hg2;obtain⟨A9,c9,rfl,-,-⟩:=ak hown2)
      have hb2:Below w.heap.size w w2:=(HQ3.out.bel.alloc HSZ.out _).grown hg2 (by have:=HSZ.out;simp;omega) (fun q hq=>(HQ3.out.row.lt q hq).1)
      have ho3:=nI hg2 (HQ3.out.row.alloc _) (HQ3.out.out.alloc _) (by decide)
      have HO3:=Lc hown2
      have HO4:=Lc ho3
      have HB2:=Lc hb2
      obtain⟨hP,hP8,hP0,hL,hL2,hpl2,-⟩:=HPP.out
      have HVV:=Lc (show VebS T out (st0++kD u l rp P++[(u,rp)])from⟨by
       rw[jR,Fz,<-HV.out.eq,jR]
       dsimp only
       rw[HLAY.out,uK u l rp P (by rw[hP];exact Lf _),hP,Nat.sub_self,<-List.range_eq_range',Ny],fun q hq=>by
       have hlu:=HLU.out
       rcases List.mem_append.1 hq with hq|hq
       ·rcases List.mem_append.1 hq with hq|hq
        ·exact HV.out.lv q (List.mem_append_left _ hq)
        ·unfold kD at hq
         obtain⟨i,-,rfl⟩:=List.mem_map.1 hq
         exact⟨hlu.2.2.2.1,hlu.2.2.2.2⟩
       ·rw[List.mem_singleton]at hq
        subst hq
        exact⟨hlu.2.1,hlu.2.2.1⟩⟩)
      have HGG:=Lc (show mu (st0++kD u l rp P++[(u,rp)])< g by
       rw[qM,JU,CZ]
       dsimp only
       have h1:=HMU.out
       rw[HMU2.out,hpl2]at h1
       rw[hP,hL]
       have h2:P*(2*(L-1)-1)=2*(P*L)-3*P:=by
        obtain⟨x,rfl⟩:∃x,L=x+2:=⟨L-2,by omega⟩
        rw[show 2*(x+2-1)-1=2*x+1 by omega,Nat.mul_add,Nat.mul_add,Nat.mul_one,<-MB,Mk P 2,MB]
        omega
       have h3:P*2<=P*L:=MW _ hL2
       have hP2:2<=P:=by rw[<-hP];exact Lt (by decide) (LQ (n:=2) (i:=1) (by decide) HLU.out.2.1)
       rw[h2]
       omega)
      have HLEN:=Lc (show m+1=(st0++kD u l rp P++[(u,rp)]).length by rw[List.length_append,List.length_append,HN.out.1];unfold kD;simp;have:=HMK2.out;omega)
      clear hown2 hg2 hb2 ho3 hP hP8 hP0 hL hL2 hpl2 i1 d1
      go_wp2_with fail
      go_step3
      refine⟨rfl,HK.out _ _ _ HGG.out ⟨out,st0++kD u l rp P++[(u,rp)],A1,A9,m1,m+1,c1,c9,_,_,_,_,_,_,_,_,_,_,_,_,_,_,_,_,_,_,_,_,_,_,_,_,_,_,_,_,_,_,_,_,_,_,_,_,_,_,_,_,_,_,_,_,_,_,_,_,_,_,_,_,_,_,_,_,_,_,_,_,_,_,_,_,_,_,_,rfl,HVV.out,Lf _,⟨HM1.out,HLEN.out⟩,HO4.out,by rw[MJ];simpa[vJ,nv]using HO3.out,HB2.out⟩⟩
def tY (l:List Nat) (N:Nat):Nat->List Nat
 |0=>List.replicate N 0
 |k+1=>(tY l N k).set (l.getD k 0-1) k
theorem kI (l:List Nat) (N:Nat):∀k,(tY l N k).length=N
 |0=>by simp[tY]
 |k+1=>by rw[tY,List.length_set,kI l N k]
def gU (lv:Nat):List Nat:=tY (bM lv 1) (2 ^ lv-1) (2 ^ lv-1)
theorem Fe (l:List Nat) (x k:Nat):(l.map nv).toArray.setIfInBounds x (nv k)=((l.set x k).map nv).toArray:=by
 simp[List.map_set]
theorem tK {w:World} {g B n:Nat} {e:TypeId} {l:List Value} (h:Blk w g e l.toArray) (hl:l.length=n) (hB:B<=g) (hn:n<=1000000):w.ownsRow B e 1 (.slice (some ⟨g,0,none⟩) n n) n l:=
 ⟨by omega,.inr ⟨g,n,_,rfl,hB,h,Lf _,by unfold maxLen;omega,by simp[hl],by rw[Nat.mul_one];show List.take n l=l;rw[LF (by omega)]⟩⟩
structure LayP (l:List Nat) (N:Nat):Prop where
 len:l.length=N
 le:N<=127
 at1:∀k (h:k< l.length),1<=l[k]'h/\l[k]'h<=N
theorem Db (lv:Nat) (h1:1<=lv) (h7:lv<=7):LayP (bM lv 1) (2 ^ lv-1):=by
 have hle:=Bp lv h7 h1
 have hp:=dO h7
 refine⟨gN lv 1 h1,by omega,fun k h=>?_⟩
 rw[MV]at hle
 have:=hle _ (List.getElem_mem h)
 simpa using this
theorem xV (l:List Nat) (N:Nat):madeCells #[.int .i64 0] (N*1)=((tY l N 0).map nv).toArray:=by
 apply Array.ext
 ·simp[madeCells,tY]
 ·intro i h1 h2
  simp[madeCells,tY,nv,Nat.mod_one]
theorem Dn (lv N:Nat) (w:World) (h1:1<=lv) (h7:lv<=7) (hN:2 ^ lv-1=N):Calls prog 244 #[.int .i64 (lv:Nat)] w fun r w'=>∃A c,r= .returned (.tuple #[.slice A N c,.int .i64 0])/\w'.ownsRow w.heap.size 3 1 (.slice A N c) N ((gU lv).map nv)/\Below w.heap.size w w':=by
 have hls:=Db lv h1 h7
 have hpc:gU lv=tY (bM lv 1) N N:=by unfold gU;rw[hN]
 rw[hpc]
 have HSZ:=Lc (fun W=>Eb lv N W h1 h7 hN)
 have hlv:=fun W=>Ez lv W h1 h7
 obtain⟨l,hl⟩:∃l,bM lv 1=l:=⟨_,rfl⟩
 rw[hN,hl]at hls
 rw[hl]at hlv ⊢
 have hN9:=hls.le
 rw[hls.len]at hlv
 have HLV:=Lc hlv
 have HLS:=Lc hls
 obtain⟨i0,hi,hz0,hz1,hz2⟩:=Mr jX
 have hmk:=fun W=>aU (P:=prog) 27 3 i0 (.int .i64 0) underlying27 hi hz0 N (by rw[hz2];omega) (by omega) W
 rw[hz1]at hmk
 clear hi hz0 hz1 hz2 h1 h7 hN hl hls hlv hpc
 go_enter func244,ntmps244
 go_wp2_with fail
 refine(HSZ.out _).mono ?_
 rintro e w1 ⟨rfl,hw⟩
 rw[hw]
 clear hw w1
 go_wp2_with fail
 obtain⟨W0,hW0⟩:∃W0,w.alloc (Obj.cells (madeCells #[.int .i64 0] (N*1)) 3)=W0:=⟨_,rfl⟩
 have hb0:Below w.heap.size w W0:=by rw[<-hW0];exact(Lg _ _).alloc (Lf _) _
 have b0:Blk W0 w.heap.size 3 ((tY l N 0).map nv).toArray:=by
  rw[<-hW0]
  have:=Blk.new w 3 (madeCells #[.int .i64 0] (N*1))
  rw[xV l N]at this ⊢
  exact this
 try rw[Nat.mul_one]at hW0
 try rw[hW0]
 have HB0:=Lc hb0
 have HSZ0:=Lc hb0.size
 clear hW0 hb0 hmk
 obtain⟨g,hg⟩:∃g,w.heap.size=g:=⟨_,rfl⟩
 rw[hg]at b0
 have HG:=Lc hg
 try rw[hg]
 refine(HLV.out _).mono ?_
 rintro e w2 ⟨A,c,rfl,ho,hb2⟩
 have HSL:=Lc (aA ho)
 have HAB:=Lc (show∀a,A=some a->g< a.block from fun a ha=>Nat.lt_of_lt_of_le b0.lt (iP ho a ha))
 have HB2:=Lc (aa HB0.out hb2)
 have hg2:=b0.below hb2 b0.lt
 have HK2:=Lc hg2
 clear ho hb2 b0 hg2 hg
 go_wp2_with fail
 go_loopw [22] (fun e W=>∃k:Nat,k<=N/\e= .int .i64 k/\Hid (Blk W g 3 ((tY l N k).map nv).toArray)/\Hid (Mod (fun b=>b=g) w2 W)) (fun e _=>N-(intOf e).toNat)
 case atStart=>exact⟨0,LC _,rfl,HK2.out,Mod.refl _ _⟩
 case round=>
  obtain⟨k,hk,rfl,hbk,hmd⟩:=hrel
  by_cases hlt:k< N
  ·have i1:(k:Int)< (N:Int):=by omega
   have i2:(0:Int)<=(k:Int):=by omega
   have hkl:k< l.length:=by rw[HLS.out.len];exact hlt
   obtain⟨b1,o1,e1,hbl1,d1⟩:=HSL.out.one k hkl
   obtain⟨x,hx⟩:∃x,l[k]'hkl=x:=⟨_,rfl⟩
   have hx1:=HLS.out.at1 k hkl
   rw[hx]at d1 hx1
   subst e1
   have hne:b1≠g:=by have:=HAB.out _ rfl;simp at this;omega
   have d2:wr.cell? ⟨b1,o1+k,none⟩=some (.int .i64 (x:Nat)):=(hmd.out.cell (p:=⟨b1,o1+k,none⟩) hbl1 hne).trans d1
   obtain⟨x1,hxx⟩:∃y,x-1=y:=⟨_,rfl⟩
   have hx1N:x1< N:=by omega
   have hcl:x1< ((tY l N k).map nv).toArray.size:=by simp[kI];exact hx1N
   obtain⟨vx,hcx⟩:∃v,wr.cell? ⟨g,x1,none⟩=some v:=⟨_,(hbk.out.cell x1).trans (Array.getElem?_eq_getElem hcl)⟩
   have hfx:wr.frozen? ⟨g,x1,none⟩=false:=hbk.out.frozen x1
   have j1:(0:Int)<=(x1:Int):=by omega
   have j2:(x1:Int)< (N:Int):=by omega
   have HST:=Lc (show((tY l N (k+1)).map nv).toArray=((tY l N k).map nv).toArray.setIfInBounds x1 (nv k)by
    rw[Fe,tY,LJ,Lu hkl,hx]
    simp only[Option.getD_some,hxx])
   have HLT:=Lc hlt
   have hw3:=aT k (by have:=HLS.out.le;omega)
   have hw1:IntKind.i64.wrap ((x:Int)-1)=(x1:Int):=by rw[Lh _ (by have:=HLS.out.le;omega)];omega
   have HW3:=Lc hw3
   clear hkl hbl1 d1 hx hx1 hne hxx hx1N hcl hlt hw3
   go_wp2_with fail
   go_roundw
   case rel=>exact⟨k+1,HLT.out,by first|rw[HW3.out]|rfl,by show Blk _ _ _ _;rw[HST.out];exact hbk.out.set_ x1 _,hmd.out.setCell (p:=⟨g,x1,none⟩) rfl _⟩
   case measure=>first|exact bO _ k HLT.out HW3.out|(have:=HLT.out;simp[intOf];omega)
  ·obtain rfl:k=N:=by omega
   have i1:¬(k:Int)< (k:Int):=by omega
   have HO:=Lc (tK (B:=w.heap.size) (n:=k) hbk.out (by simp[kI]) (by rw[HG.out];exact Lf _) (by have:=HLS.out.le;omega))
   have HBE:=Lc (show Below w.heap.size w wr from HB2.out.trans (hmd.out.below HB2.out.size (fun b hb=>by have hb:b=g:=hb;rw[HG.out];omega)))
   clear hlt hk
   go_wp2_with fail
   refine Li (v:= .tuple #[.slice (some ⟨g,0,none⟩) k k,.int .i64 0]) (by simp[results,results244,go_sem]) rfl ?_
   exact⟨_,_,rfl,HO.out,HBE.out⟩
theorem BS:∀(lv r:Nat) (w:World),1<=lv->lv<=7->(r+1)*2 ^ (lv-1)<=128->Calls prog 155 #[.int .i64 (lv:Nat),.int .i64 (r:Nat)] w (jc 3 ((bM lv r).map nv) (bM lv r).length w):=by
 intro lv
 induction lv using NA with
 |_ lv ih=>
 intro r w h1 h7 hr
 by_cases hlv:lv=1
 ·subst hlv
  have i1:((1:Nat):Int)=1:=rfl
  have hb:Below w.heap.size w (w.alloc (.cells #[.int .i64 (r:Nat)] 3)):=(Lg _ _).alloc (Lf _) _
  have ho:(w.alloc (.cells #[.int .i64 (r:Nat)] 3)).ownsRow w.heap.size 3 1 (.slice (some ⟨w.heap.size,0,none⟩) 1 1) 1 ([r].map nv):=tK (Blk.new w _ _) rfl (Lf _) (by omega)
  have HB:=Lc hb
  have HO:=Lc ho
  clear hb ho ih
  go_enter func155,ntmps155
  go_wp2_with fail
  go_ret
  exact⟨_,_,rfl,HO.out,HB.out⟩
 ·obtain⟨u,hu⟩:∃u,lv/2=u:=⟨_,rfl⟩
  obtain⟨l,hl⟩:∃l,lv-u=l:=⟨_,rfl⟩
  have hlay:=oJ r (show 2<=lv by omega)
  rw[hu,hl]at hlay
  rw[hlay]
  obtain⟨P,hP⟩:∃P,2 ^ u=P:=⟨_,rfl⟩
  have hP8:P<=128:=by rw[<-hP];exact dO (by omega)
  have hP0:0< P:=by rw[<-hP];exact M6 u
  have hpp:2 ^ (lv-1)=P*2 ^ (l-1):=by rw[<-hP,<-MQ];congr 1;omega
  have hl0:=M6 (l-1)
  have hPr:(r+1)*P<=128:=by
   rw[hpp,<-MB]at hr
   exact Lt (Nat.le_mul_of_pos_right _ hl0) hr
  have H1:=Lc (fun W=>ih u (by omega) r W (by omega) (by omega) (Lt (MW _ (LQ (n:=2) (by decide) (show u-1<=lv-1 by omega))) hr))
  have H2:=Lc (fun W i (hi:i< P)=>ih l (by omega) (r*P+i) W (by omega) (by omega) (by
   refine Lt (Mg _ (show r*P+i+1<=(r+1)*P by rw[M7,MO];omega)) ?_
   rw[MB,<-hpp];exact hr))
  have HPO:=Lc (show∀W,Calls prog 154 #[.int .i64 (u:Nat)] W (fun r' w'=>r'= .returned (.int .i64 (P:Nat))/\w'=W)from fun W=>by have:=jZ u W (by omega);rw[hP]at this;exact this)
  rw[hP]
  obtain⟨RP,hRP⟩:∃x,r*P=x:=⟨_,rfl⟩
  rw[hRP]at H2 ⊢
  have hRP9:RP+P<=128:=by rw[M7,MO,hRP]at hPr;exact hPr
  have i1:¬(lv:Int)=1:=by omega
  have hlen:∀i,i< P->(bM l (RP+i)).length<=127:=fun i hi=>by rw[gN _ _ (by omega)];have:=dO (show l<=7 by omega);omega
  have hlenu:(bM u r).length<=127:=by rw[gN _ _ (by omega)];have:=dO (show u<=7 by omega);omega
  have HLEN:=Lc (Lr hlen (Lr hlenu (Lr hP8 (Lr hP0 hRP9))))
  obtain⟨i0,hi,hz0,hz1,hz2⟩:=Mr jX
  have HII:=Lc (Lr hi (Lr hz0 (Lr hz1 hz2)))
  have j3:(lv:Int)/2=(u:Int):=by omega
  have j5:(lv:Int).tdiv 2=(u:Int):=by rw[Nn (by omega)];omega
  have y3:IntKind.i64.wrap (r*(P:Int))=(RP:Int):=by rw[show(r:Int)*(P:Int)=(RP:Int)by rw[<-hRP,Int.natCast_mul]];exact Lh _ (by omega)
  have y2:IntKind.i64.wrap ((lv:Int)-(u:Int))=(l:Int):=by rw[Lh _ (by omega)];omega
  have y1:IntKind.i64.wrap (u:Int)=(u:Int):=Lh _ (by omega)
  clear hi hz0 hz1 hz2 hu hl hlay hP hP8 hP0 hpp hl0 hPr hRP hRP9 hlen hlenu ih h1 h7 hr hlv
  go_enter func155,ntmps155
  go_wp2_with fail
  refine(H1.out _).mono ?_
  rintro e w1 ⟨A6,c6,rfl,ho6,hb1⟩
  have HO6:=Lc ho6
  have HB1:=Lc hb1
  clear ho6 hb1
  go_wp2_with fail
  go_loopw [6,7] (fun o i W=>∃(k m:Nat) (A:Option Addr) (c:Nat),k<=P/\i= .int .i64 k/\o= .slice A m c/\Hid (m=(bM u r++(L8 k).flatMap fun i=>bM l (RP+i)).length)/\Hid (W.ownsRow w.heap.size 3 1 (.slice A m c) m ((bM u r++(L8 k).flatMap fun i=>bM l (RP+i)).map nv))/\Hid (Below w.heap.size w W)/\Hid (m<=127+127*k)) (fun _ i _=>P-(intOf i).toNat)
  case atStart=>exact⟨0,_,A6,c6,LC _,rfl,rfl,by show _=_;simp,by show World.ownsRow _ _ _ _ _ _ _;simpa using HO6.out,HB1.out,HLEN.out.2.1⟩
  case round=>
   obtain⟨k,m,A,c,hk,rfl,rfl,hm,hor,hbr,hml⟩:=hrel
   go_wp2_with fail
   refine(HPO.out _).mono ?_
   rintro e w2 ⟨rfl,hw⟩
   rw[hw]
   clear hw w2
   by_cases hlt:k< P
   ·have hkP:=hlt
    have HK:=Lc (show m<=20000 by have:=hml.out;have:=HLEN.out;omega)
    have i2:(k:Int)< (P:Int):=by omega
    have y4:IntKind.i64.wrap ((RP:Int)+(k:Int))=((RP+k:Nat):Int):=by rw[Lh _ (by have:=HLEN.out;omega)];omega
    have hll:=HLEN.out.1 k hlt
    have hst:(bM u r++(L8 (k+1)).flatMap fun i=>bM l (RP+i))=(bM u r++(L8 k).flatMap fun i=>bM l (RP+i))++bM l (RP+k):=by rw[List.range_succ,MJ,Ny];simp
    have HST:=Lc hst
    have HC:=Lc (fun W=>H2.out W k hlt)
    obtain⟨R1,hR1⟩:∃x,RP+k=x:=⟨_,rfl⟩
    rw[hR1]at y4 hll HST HC
    have HLL:=Lc hll
    have HLT:=Lc hlt
    have hw3:=aT k (by have:=HLEN.out;omega)
    have HW3:=Lc hw3
    clear hkP hll hst hR1 hlt hw3
    go_wp2_with fail
    refine(HPO.out _).mono ?_
    rintro e w2 ⟨rfl,hw⟩
    rw[hw]
    clear hw w2
    go_wp2_with fail
    refine(HC.out _).mono ?_
    rintro e w3 ⟨A9,c9,rfl,ho9,hb9⟩
    have HS9:=Lc (aA ho9)
    have HB9:=Lc (aa hbr.out hb9)
    have HOR:=Lc (own_below hor.out hb9)
    have HSZ:=Lc HB9.out.size
    clear ho9 hb9 i2 y4
    go_wp2_with (at_builtin;refine ag _ rfl (.tmp 23) (.tmp 33) _ rfl w.heap.size 3 i0 _ 1 8 underlying27 HII.out.1 HII.out.2.1 HII.out.2.2.1 HII.out.2.2.2 rfl (by omega) (.slice A m c) _ _ rfl HOR.out A9 _ _ ((bM l R1).map nv) rfl HS9.out (by simp) (by intro u hu;obtain⟨x,-,rfl⟩:=List.mem_map.1 hu;rfl) (by unfold maxLen;have:=HK.out;have:=HLL.out;omega) (by have:=HK.out;have:=HLL.out;omega) HSZ.out ?_;intro v2 w4 hown2 hg2;obtain⟨A7,c7,rfl,-,-⟩:=ak hown2)
    have hb4:=HB9.out.grown hg2 HSZ.out (fun q hq=>(HOR.out.lt q hq).1)
    rw[<-Nb,<-HST.out]at hown2
    have HO4:=Lc hown2
    have HB4:=Lc hb4
    have HM4:=Lc (show m+(bM l R1).length=(bM u r++(L8 (k+1)).flatMap fun i=>bM l (RP+i)).length by rw[HST.out,List.length_append,<-hm.out])
    have HM5:=Lc (show m+(bM l R1).length<=127+127*(k+1)by have:=hml.out;have:=HLL.out;omega)
    clear hown2 hg2 hb4
    go_wp2_with fail
    go_roundw
    case rel=>exact⟨k+1,_,A7,c7,HLT.out,by rw[HW3.out],rfl,HM4.out,HO4.out,HB4.out,HM5.out⟩
    case measure=>exact bO _ k HLT.out HW3.out
   ·obtain rfl:k=P:=by omega
    have i2:¬(k:Int)< (k:Int):=by omega
    clear hlt hk
    go_wp2_with fail
    go_ret
    exact⟨A,c,by rw[<-hm.out];rfl,by rw[<-hm.out];exact hor.out,hbr.out⟩
theorem wL (lv N:Nat) (w:World) (h1:1<=lv) (h7:lv<=7) (hN:2 ^ lv-1=N):Calls prog 135 #[.int .i64 (lv:Nat)] w (jc 3 ((gU lv).map nv) N w):=by
 have hls:=Db lv h1 h7
 have hpc:gU lv=tY (bM lv 1) N N:=by unfold gU;rw[hN]
 rw[hpc]
 have HSZ:=Lc (fun W=>qX lv N W h7 hN)
 have hlv:=fun W=>BS lv 1 W h1 h7 (by
   have:2 ^ lv<=128:=dO h7;have h2:2 ^ lv=2 ^ (lv-1)*2:=by rw[<-Nat.pow_succ];congr 1;omega
   omega)
 obtain⟨l,hl⟩:∃l,bM lv 1=l:=⟨_,rfl⟩
 rw[hN,hl]at hls
 rw[hl]at hlv ⊢
 have hN9:=hls.le
 rw[hls.len]at hlv
 have HLV:=Lc hlv
 have HLS:=Lc hls
 obtain⟨i0,hi,hz0,hz1,hz2⟩:=Mr jX
 have hmk:=fun W=>aU (P:=prog) 27 3 i0 (.int .i64 0) underlying27 hi hz0 N (by rw[hz2];omega) (by omega) W
 rw[hz1]at hmk
 clear hi hz0 hz1 hz2 h1 h7 hN hl hls hlv hpc
 go_enter func135,ntmps135
 go_wp2_with fail
 refine(HSZ.out _).mono ?_
 rintro e w1 ⟨rfl,hw⟩
 rw[hw]
 clear hw w1
 go_wp2_with fail
 obtain⟨W0,hW0⟩:∃W0,w.alloc (Obj.cells (madeCells #[.int .i64 0] (N*1)) 3)=W0:=⟨_,rfl⟩
 have hb0:Below w.heap.size w W0:=by rw[<-hW0];exact(Lg _ _).alloc (Lf _) _
 have b0:Blk W0 w.heap.size 3 ((tY l N 0).map nv).toArray:=by
  rw[<-hW0]
  have:=Blk.new w 3 (madeCells #[.int .i64 0] (N*1))
  rw[xV l N]at this ⊢
  exact this
 try rw[Nat.mul_one]at hW0
 try rw[hW0]
 have HB0:=Lc hb0
 clear hW0 hb0 hmk
 obtain⟨g,hg⟩:∃g,w.heap.size=g:=⟨_,rfl⟩
 rw[hg]at b0
 have HG:=Lc hg
 try rw[hg]
 refine(HLV.out _).mono ?_
 rintro e w2 ⟨A,c,rfl,ho,hb2⟩
 have HSL:=Lc (aA ho)
 have HAB:=Lc (show∀a,A=some a->g< a.block from fun a ha=>Nat.lt_of_lt_of_le b0.lt (iP ho a ha))
 have HB2:=Lc (aa HB0.out hb2)
 have hg2:=b0.below hb2 b0.lt
 have HK2:=Lc hg2
 clear ho hb2 b0 hg2 hg
 go_wp2_with fail
 go_loopw [5] (fun e W=>∃k:Nat,k<=N/\e= .int .i64 k/\Hid (Blk W g 3 ((tY l N k).map nv).toArray)/\Hid (Mod (fun b=>b=g) w2 W)) (fun e _=>N-(intOf e).toNat)
 case atStart=>exact⟨0,LC _,rfl,HK2.out,Mod.refl _ _⟩
 case round=>
  obtain⟨k,hk,rfl,hbk,hmd⟩:=hrel
  by_cases hlt:k< N
  ·have i1:(k:Int)< (N:Int):=by omega
   have i2:(0:Int)<=(k:Int):=by omega
   have hkl:k< l.length:=by rw[HLS.out.len];exact hlt
   obtain⟨b1,o1,e1,hbl1,d1⟩:=HSL.out.one k hkl
   obtain⟨x,hx⟩:∃x,l[k]'hkl=x:=⟨_,rfl⟩
   have hx1:=HLS.out.at1 k hkl
   rw[hx]at d1 hx1
   subst e1
   have hne:b1≠g:=by have:=HAB.out _ rfl;simp at this;omega
   have d2:wr.cell? ⟨b1,o1+k,none⟩=some (.int .i64 (x:Nat)):=(hmd.out.cell (p:=⟨b1,o1+k,none⟩) hbl1 hne).trans d1
   obtain⟨x1,hxx⟩:∃y,x-1=y:=⟨_,rfl⟩
   have hx1N:x1< N:=by omega
   have hcl:x1< ((tY l N k).map nv).toArray.size:=by simp[kI];exact hx1N
   obtain⟨vx,hcx⟩:∃v,wr.cell? ⟨g,x1,none⟩=some v:=⟨_,(hbk.out.cell x1).trans (Array.getElem?_eq_getElem hcl)⟩
   have hfx:wr.frozen? ⟨g,x1,none⟩=false:=hbk.out.frozen x1
   have j1:(0:Int)<=(x1:Int):=by omega
   have j2:(x1:Int)< (N:Int):=by omega
   have HST:=Lc (show((tY l N (k+1)).map nv).toArray=((tY l N k).map nv).toArray.setIfInBounds x1 (nv k)by
    rw[Fe,tY,LJ,Lu hkl,hx]
    simp only[Option.getD_some,hxx])
   have HLT:=Lc hlt
   have hw3:=aT k (by have:=HLS.out.le;omega)
   have hw1:IntKind.i64.wrap ((x:Int)-1)=(x1:Int):=by rw[Lh _ (by have:=HLS.out.le;omega)];omega
   have HW3:=Lc hw3
   clear hkl hbl1 d1 hx hx1 hne hxx hx1N hcl hlt hw3
   go_wp2_with fail
   go_roundw
   case rel=>exact⟨k+1,HLT.out,by first|rw[HW3.out]|rfl,by show Blk _ _ _ _;rw[HST.out];exact hbk.out.set_ x1 _,hmd.out.setCell (p:=⟨g,x1,none⟩) rfl _⟩
   case measure=>first|exact bO _ k HLT.out HW3.out|(have:=HLT.out;simp[intOf];omega)
  ·obtain rfl:k=N:=by omega
   have i1:¬(k:Int)< (k:Int):=by omega
   have HO:=Lc (tK (B:=w.heap.size) (n:=k) hbk.out (by simp[kI]) (by rw[HG.out];exact Lf _) (by have:=HLS.out.le;omega))
   have HBE:=Lc (show Below w.heap.size w wr from HB2.out.trans (hmd.out.below HB2.out.size (fun b hb=>by have hb:b=g:=hb;rw[HG.out];omega)))
   clear hlt hk
   go_wp2_with fail
   go_ret
   exact⟨_,_,rfl,HO.out,HBE.out⟩
structure Td where
 max:Int
 many:Nat
abbrev Td.row (t:Td):Array Value:=#[.int .i64 t.max,.int .i64 ((t.many:Nat):Int)]
def jC (a b:Td):Td:=if 0< b.many then⟨b.max,a.many+b.many⟩else a
def lastT (L:List Pr):Td:=match L.getLast? with
 |none=>⟨0,0⟩
 |some p=>⟨p.key,L.length⟩
def dH (s:Ss) (k:Nat):Td:=lastT (mh s (k*s.seg.toNat) s.seg.toNat)
theorem yR (s:Ss) (k:Nat):(dH s k).many<=s.seg.toNat:=by
 unfold dH lastT
 split
 ·exact LC _
 ·dsimp only
  rw[qN,dQ]
  exact eT _ _ _
theorem zW (a b:Td) (w:World) (ha:a.many<=100000) (hb:b.many<=100000):Calls prog 243 #[.agg a.row,.agg b.row] w fun r w'=>r= .returned (.agg (jC a b).row)/\Below w.heap.size w w':=by
 obtain⟨ax,am⟩:=a
 obtain⟨bx,bm⟩:=b
 dsimp only at ha hb
 unfold jC
 dsimp only
 have hbl:∀x y:Value,Below w.heap.size w (((w.alloc (.cells #[.int .i64 ax,.int .i64 (am:Nat)] 281)).alloc (.cells #[.int .i64 bx,.int .i64 (bm:Nat)] 281)).alloc (.cells #[x,y] 281)):=fun x y=>(((Lg _ _).alloc (Lf _) _).alloc (by simp) _).alloc (by simp;omega) _
 have HBL:=Lc hbl
 clear hbl
 by_cases hz:0< bm
 ·rw[if_pos hz]
  have i1:(0:Int)< (bm:Int):=by omega
  have hw:IntKind.i64.wrap ((am:Int)+(bm:Int))=((am+bm:Nat):Int):=by rw[Lh _ (by omega)];omega
  obtain⟨S,hS⟩:∃S,am+bm=S:=⟨_,rfl⟩
  rw[hS]at hw ⊢
  clear hS ha hb
  go_enter func243,ntmps243
  go_wp2_with fail
  refine Li (v:= .agg #[.int .i64 bx,.int .i64 (S:Nat)]) (by simp[results,results243,go_sem]) rfl ?_
  exact⟨rfl,HBL.out _ _⟩
 ·rw[if_neg hz]
  have i1:¬(0:Int)< (bm:Int):=by omega
  clear ha hb
  go_enter func243,ntmps243
  go_wp2_with fail
  refine Li (v:= .agg #[.int .i64 ax,.int .i64 (am:Nat)]) (by simp[results,results243,go_sem]) rfl ?_
  exact⟨rfl,HBL.out _ _⟩
theorem yS (a b:Td) (w:World) (ha:a.many<=100000) (hb:b.many<=100000):Calls prog 158 #[.agg a.row,.agg b.row] w fun r w'=>r= .returned (.agg (jC a b).row)/\Below w.heap.size w w':=by
 obtain⟨ax,am⟩:=a
 obtain⟨bx,bm⟩:=b
 dsimp only at ha hb
 unfold jC
 dsimp only
 have hbl:∀x y:Value,Below w.heap.size w (((w.alloc (.cells #[.int .i64 ax,.int .i64 (am:Nat)] 193)).alloc (.cells #[.int .i64 bx,.int .i64 (bm:Nat)] 193)).alloc (.cells #[x,y] 193)):=fun x y=>(((Lg _ _).alloc (Lf _) _).alloc (by simp) _).alloc (by simp;omega) _
 have HBL:=Lc hbl
 clear hbl
 by_cases hz:0< bm
 ·rw[if_pos hz]
  have i1:(0:Int)< (bm:Int):=by omega
  have hw:IntKind.i64.wrap ((am:Int)+(bm:Int))=((am+bm:Nat):Int):=by rw[Lh _ (by omega)];omega
  obtain⟨S,hS⟩:∃S,am+bm=S:=⟨_,rfl⟩
  rw[hS]at hw ⊢
  clear hS ha hb
  go_enter func158,ntmps158
  go_wp2_with fail
  refine Li (v:= .agg #[.int .i64 bx,.int .i64 (S:Nat)]) (by simp[results,results158,go_sem]) rfl ?_
  exact⟨rfl,HBL.out _ _⟩
 ·rw[if_neg hz]
  have i1:¬(0:Int)< (bm:Int):=by omega
  clear ha hb
  go_enter func158,ntmps158
  go_wp2_with fail
  refine Li (v:= .agg #[.int .i64 ax,.int .i64 (am:Nat)]) (by simp[results,results158,go_sem]) rfl ?_
  exact⟨rfl,HBL.out _ _⟩
theorem Ju {P:Prop} (h:P:=by
 have hsg:=fC hm
 have hle:=yR s k
 unfold dH at hle ⊢
 obtain⟨G,hG⟩:∃G,s.seg.toNat=G:=⟨_,rfl⟩
 rw[hG]at hsg hle ⊢
 have hkD:(k+1)*G<=s.ks.length:=by rw[hsg.kl,Mk G];exact Mg _ hk
 have hk2:k*G+G<=s.ks.length:=by rw[M7,MO]at hkD;exact hkD
 try (have mz:=mk0;clear mz;have hpr:=fun W (h:SsAt W s)=>iI s (k*G) G W h ho hk2)
 try (have mz:=mk0;clear mz;rw[if_pos hm,if_pos hm]at hpr)
 try (have mz:=mk1;clear mz;have hpr:=fun W (h:SsAt W s)=>qW s (k*G) G W h ho (dJ hm).1 hk2 (by have:=(dJ hm).2.1;omega))
 obtain⟨L,hL⟩:∃L,mh s (k*G) G=L:=⟨_,rfl⟩
 have hLl:L.length<=300:=by rw[<-hL,qN,dQ];have:=eT s.ws G (k*G);have:=ho.kl;omega
 rw[hL]at hpr hle ⊢
 obtain⟨V,hV⟩:∃V,lastT L=V:=⟨_,rfl⟩
 rw[hV]
 have HV:=Lc hV
 obtain⟨F,hF⟩:∃F,k*G=F:=⟨_,rfl⟩
 obtain⟨T,hT⟩:∃T,F+G=T:=⟨_,rfl⟩
 rw[hF,hT]at hpr
 have hkl:=ho.kl
 have y1:=jP k G F hF (by omega)
 have y2:=jP (k+1) G T (by rw[M7,MO,hF,hT]) (by rw[M7,MO,hF,hT]at hkD;omega)
 have hw1:=aT k (by have:=ho.cl;omega)
 obtain⟨k1,hk1⟩:∃x,k+1=x:=⟨_,rfl⟩
 rw[hk1]at y2 hw1
 have hw1b:IntKind.i64.wrap ((k:Int)+1)=(k1:Int):=by rw[Lh _ (by have:=ho.cl;omega)];omega
 have HPR:=Lc hpr
 have HLL:=Lc hLl
 have y3:∀[Inhabited Nat],IntKind.i64.wrap ((k:Int)*(G:Int))=(F:Int):=y1.1
 have y5:∀[Inhabited Nat],IntKind.i64.wrap ((k1:Int)*(G:Int))=(T:Int):=y2.1
 have y4:∀[Inhabited Nat],wrap64 ((k:Int)*(G:Int))=(F:Int):=y1.2
 have y6:∀[Inhabited Nat],wrap64 ((k1:Int)*(G:Int))=(T:Int):=y2.2
 have y7:∀[Inhabited Nat],IntKind.i64.wrap ((k:Int)+1)=(k1:Int):=hw1b
 have y8:∀[Inhabited Nat],wrap64 ((k:Int)+1)=(k1:Int):=hw1
 first|(have mz:=mk0;clear mz;obtain⟨W0,hW0⟩:∃W,(w.alloc (.cells s.row 29)).alloc (.cells #[.int .i64 0,.int .i64 0] 281)=W:=⟨_,rfl⟩)|(have mz:=mk1;clear mz;obtain⟨W0,hW0⟩:∃W,(w.alloc (.cells s.row 29)).alloc (.cells #[.int .i64 0,.int .i64 0] 193)=W:=⟨_,rfl⟩)
 have hb0:Below w.heap.size w W0:=by rw[<-hW0];exact((Lg _ _).alloc (Lf _) _).alloc (by simp) _
 have b0:Blk W0 w.heap.size 29 s.row:=by rw[<-hW0];exact(Blk.new _ _ _).alloc _
 first
  |have mz:=mk0
   clear mz
   have bt:Blk W0 (w.heap.size+1) 281 #[.int .i64 0,.int .i64 0]:=by
    rw[<-hW0]
    have:=Blk.new (w.alloc (.cells s.row 29)) 281 #[.int .i64 0,.int .i64 0]
    rwa [Ls]at this
  |have mz:=mk1
   clear mz
   have bt:Blk W0 (w.heap.size+1) 193 #[.int .i64 0,.int .i64 0]:=by
    rw[<-hW0]
    have:=Blk.new (w.alloc (.cells s.row 29)) 193 #[.int .i64 0,.int .i64 0]
    rwa [Ls]at this
 have HW0:=Lc hW0
 have HB0:=Lc hb0
 have HT0:=Lc bt
 have HS0:=Lc (hs.below hb0)
 have hsi:=hsg.seg
 clear y1 y2 hw1 hw1b hk1 hF hT hL hV hpr hLl hkD hk2 hsg hG hle hW0 hb0 bt hs ho hm hk hkl
 obtain⟨i0,q0,q1,q2,q3,q4,q5⟩:=E5 b0
 rw[hsi]at q0
 have HSI:=Lc hsi
 clear b0 hsi
 first|go_enter func242,ntmps242|go_enter func157,ntmps157
 go_upto_region 1 with fail
 rw[HW0.out]
 go_wp2_with fail
 have hpr:=HPR.out W0 HS0.out
 rw[show(Value.agg s.row)= .agg #[.int .i64 (G:Int),.slice s.wA s.ws.length s.wc,.slice s.kA s.ks.length s.kc,.slice s.vA s.vs.length s.vc,.slice s.cA s.cs.length s.cc,.int .u64 s.laid]by rw[<-HSI.out]]at hpr
 refine hpr.mono ?_
 clear hpr y3 y4 y5 y6 y7 y8
 rintro e w1 ⟨A1,c1,rfl,ho1,hb1⟩
 have HSL:=Lc (aA ho1)
 have HB1:=Lc (aa HB0.out hb1)
 have kt:=HT0.out.below hb1 HT0.out.lt
 have t0:w1.cell? ⟨w.heap.size+1,0,none⟩=some (.int .i64 0):=kt.cell 0
 have t1:w1.cell? ⟨w.heap.size+1,1,none⟩=some (.int .i64 0):=kt.cell 1
 have u0:=kt.frozen 0
 have u1:=kt.frozen 1
 have ul:=kt.lt
 clear ho1 hb1 kt q0 q1 q2 q3 q4 q5 i0
 have hbw:∀x y:Value,Below w.heap.size w ((w1.setCell ⟨w.heap.size+1,0,none⟩ x).setCell ⟨w.heap.size+1,1,none⟩ y):=fun x y=>(HB1.out.setCell (p:=⟨w.heap.size+1,0,none⟩) (MK _) x).setCell (p:=⟨w.heap.size+1,1,none⟩) (MK _) y
 have HBW:=Lc hbw
 clear hbw
 rcases List.eq_nil_or_concat L with hn|⟨L0,p,hn⟩
 ·subst hn
  simp only[List.length_nil]
  go_wp2_with fail
  first|refine Li (v:= .agg #[.int .i64 0,.int .i64 0]) (by simp[results,results242,go_sem,t0,t1,u0,u1,ul]) rfl ?_|refine Li (v:= .agg #[.int .i64 0,.int .i64 0]) (by simp[results,results157,go_sem,t0,t1,u0,u1,ul]) rfl ?_
  exact⟨by rw[<-HV.out];rfl,HBW.out _ _⟩
 ·rw[List.concat_eq_append]at hn
  have hlen:L.length=L0.length+1:=by rw[hn];simp
  have hgl:lastT L=⟨p.key,L.length⟩:=by unfold lastT;rw[hn];simp
  obtain⟨b1,o1,e1,hbl,d0,d1⟩:=HSL.out.pr L0.length (by omega)
  have hlp:L[L0.length]'(by omega)=p:=by simp only[hn];simp
  rw[hlp]at d0
  subst e1
  obtain⟨m,hm⟩:∃m,L.length=m:=⟨_,rfl⟩
  obtain⟨n,hn2⟩:∃m,L0.length=m:=⟨_,rfl⟩
  have hml:=HLL.out
  rw[hm]at hlen hml hgl ⊢
  rw[hn2]at hlen d0
  have HGL:=Lc hgl
  have i1:¬(m:Int)=0:=by omega
  have i2:(0:Int)<=(n:Int):=by omega
  have i3:(n:Int)< (m:Int):=by omega
  have hwm:IntKind.i64.wrap ((m:Int)-1)=(n:Int):=by rw[Lh _ (by omega)];omega
  clear hlen hgl d1 hbl hm hn2 hml hlp hn
  go_wp2_with fail
  first|refine Li (v:= .agg #[.int .i64 p.key,.int .i64 (m:Nat)]) (by simp[results,results242,go_sem,t0,t1,u0,u1,ul]) rfl ?_|refine Li (v:= .agg #[.int .i64 p.key,.int .i64 (m:Nat)]) (by simp[results,results157,go_sem,t0,t1,u0,u1,ul]) rfl ?_
  exact⟨by rw[<-HV.out,HGL.out],HBW.out _ _⟩):P:=h
theorem EK (s:Ss) (k:Nat) (w:World) (hs:SsAt w s) (ho:SsOk s) (hm:bB s=true) (hk:k< s.cs.length):Calls prog 242 #[.agg s.row,.int .i64 (k:Nat)] w fun r w'=>r= .returned (.agg (dH s k).row)/\Below w.heap.size w w':=by
 have mk0:=()
 exact Ju
theorem Av (s:Ss) (k:Nat) (w:World) (hs:SsAt w s) (ho:SsOk s) (hm:bB s=true) (hk:k< s.cs.length):Calls prog 157 #[.agg s.row,.int .i64 (k:Nat)] w fun r w'=>r= .returned (.agg (dH s k).row)/\Below w.heap.size w w':=by
 have mk1:=()
 exact Ju
end Go.Proofs.YtpbmbjjfdpkhbaaGreat
