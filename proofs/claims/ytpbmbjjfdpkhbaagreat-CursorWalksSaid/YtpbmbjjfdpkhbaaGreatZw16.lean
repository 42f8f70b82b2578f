/- part of the proof -/
import Derived.Test.YtpbmbjjfdpkhbaaGreatZw15
import Derived.Test.YtpbmbjjfdpkhbaaGreatZw13
import Derived.Test.YtpbmbjjfdpkhbaaGreatZw13b
import Derived.RangeFuncOwn
import Derived.RangeFuncLeaves
import Derived.OwnWalkIn
import Derived.TacticsInMore
import Derived.LoopIn
import Derived.LoopNIn
import Derived.Test.YtpbmbjjfdpkhbaaGreatZw1
import Derived.Test.YtpbmbjjfdpkhbaaGreatZw8
import Derived.BigQuiet
import Derived.BigRegionIn
namespace Go.Proofs.YtpbmbjjfdpkhbaaGreat
open Go Go.RowKit
set_option linter.all false
set_option maxRecDepth 100000
set_option maxHeartbeats 32000000
open Go.Proofs.Tryz
open And renaming intro->KW
open Below renaming refl->KR
open Bool renaming false_ne_true->KP
open Go renaming bodyPost_end->M0,bodyPost_ret->KV,callsIn_of_wp_marks->MV,results_none->L6,wpOpIn_step->Le
open Go.Lib renaming hid->KO
open Go.Value renaming int->LB,oneCell'->K5
open Go.World renaming ownsRow_nil->Li,putObj_heap_other->K9
open List renaming append_toArray->Me,cons_append->Mr,getD_eq_getElem?_getD->Lf,getElem?_cons_succ->La,getElem?_cons_zero->Lb,getElem?_eq_getElem->K7,getElem?_toArray->LG,nil_append->LA,push_toArray->Mq,setIfInBounds_toArray->Lg,set_cons_zero->LC,size_toArray->Ll,take_of_length_le->KZ
open Nat renaming le_refl->KS,le_trans->KY,reduceAdd->LD,reduceSub->LF
open Option.some renaming inj->KQ
def Fu (m:Mv) (c:Cu):Int:=if c.ver=m.ver then(if c.on=true then 0 else 2)else 300
theorem fQ (m:Mv) (c:Cu):dA m c=if aV m=0 then Fu m c else aV m:=rfl
theorem kW (m:Mv) (c:Cu) (w:World):Calls prog 33 #[.agg m.row,.agg c.row] w fun r w'=>r= .returned (.int .i64 (Fu m c))/\Below w.heap.size w w':=by
 obtain⟨ver,on,key⟩:=c
 obtain⟨W0,hW0⟩:∃W,((w.alloc (.cells m.row 42)).alloc (.cells #[.int .u64 ver,.bool on,.int .i64 key] 44))=W:=⟨_,rfl⟩
 have hb0:Below w.heap.size w W0:=by rw[<-hW0];exact(((KR _ _).alloc (by first|exact KS _|(simp;done)|(simp;omega)) _).alloc (by first|exact KS _|(simp;done)|(simp;omega)) _)
 have bq0:Blk W0 w.heap.size 42 m.row:=by rw[<-hW0];exact((Blk.new _ _ _).alloc _)
 have HQ0:=KO bq0
 have bq1:Blk W0 (w.heap.size+1) 44 #[.int .u64 ver,.bool on,.int .i64 key]:=by rw[<-hW0];exact(aj (by simp))
 have HQ1:=KO bq1
 have HW0:=KO hW0
 have HB0:=KO hb0
 clear hW0 hb0 bq0 bq1
 have a1:W0.cell? ⟨w.heap.size,1,none⟩=some (.int .u64 m.ver):=HQ0.out.cell 1
 have b0:=HQ1.out.cell
 obtain⟨R,hR⟩:∃R,Fu m ⟨ver,on,key⟩=R:=⟨_,rfl⟩
 rw[hR]
 by_cases hv:ver=m.ver
 ·have hq:(ver !=m.ver)=false:=by simp[hv]
  have HV:=KO hv
  clear hv
  cases on with
  |false=>
   obtain rfl:R=2:=by rw[<-hR];simp[Fu,HV.out]
   clear hR
   go_enter func33,ntmps33
   go_upto_region 1 with fail
   rw[HW0.out]
   go_wp2_with fail
   go_ret
   exact⟨rfl,HB0.out⟩
  |true=>
   obtain rfl:R=0:=by rw[<-hR];simp[Fu,HV.out]
   clear hR
   go_enter func33,ntmps33
   go_upto_region 1 with fail
   rw[HW0.out]
   go_wp2_with fail
   go_ret
   exact⟨rfl,HB0.out⟩
 ·have hq:(ver !=m.ver)=true:=by simp[hv]
  obtain rfl:R=300:=by rw[<-hR];simp[Fu,hv]
  clear hR hv
  go_enter func33,ntmps33
  go_upto_region 1 with fail
  rw[HW0.out]
  go_wp2_with fail
  go_ret
  exact⟨rfl,HB0.out⟩
theorem ve (m:Mv) (A:Option Addr) (l:List Pr) (c:Nat) (k:Int) (w:World) (hA:Sl w A (l.flatMap Pr.cells)) (hl:l.length<=1000000):
  Calls prog 36 #[.agg m.row,.slice A l.length c,.int .i64 k] w fun r w'=>r= .returned (.tuple #[.agg (sW m.ver l k).row,.int .i64 (zx l k)])/\Below w.heap.size w w':=by
 rw[<-(I8 m.ver l k).1,<-(I8 m.ver l k).2]
 obtain⟨W0,hW0⟩:∃W,((w.alloc (.cells m.row 42)).alloc (.cells #[.int .u64 0,.bool false,.int .i64 0] 44))=W:=⟨_,rfl⟩
 have hb0:Below w.heap.size w W0:=by rw[<-hW0];exact(((KR _ _).alloc (by first|exact KS _|(simp;done)|(simp;omega)) _).alloc (by first|exact KS _|(simp;done)|(simp;omega)) _)
 have bq0:Blk W0 w.heap.size 42 m.row:=by rw[<-hW0];exact((Blk.new _ _ _).alloc _)
 have HQ0:=KO bq0
 have bq1:Blk W0 (w.heap.size+1) 44 #[.int .u64 0,.bool false,.int .i64 0]:=by rw[<-hW0];exact(aj (by simp))
 have HQ1:=KO bq1
 have HW0:=KO hW0
 have HB0:=KO hb0
 clear hW0 hb0 bq0 bq1
 have hat:=EM A l c k W0 (hA.below HB0.out) hl
 obtain⟨P,hP⟩:∃P,I5 l k=P:=⟨_,rfl⟩
 obtain⟨B,hB⟩:∃B,Jz l k=B:=⟨_,rfl⟩
 rw[hP,hB]at hat ⊢
 have hon:=fun W=>FL m P B W
 obtain⟨C,hC⟩:∃C,J5 m.ver P B=C:=⟨_,rfl⟩
 obtain⟨E,hE⟩:∃E,onE B=E:=⟨_,rfl⟩
 rw[hC,hE]at hon ⊢
 have HAT:=KO hat
 have HON:=KO hon
 clear hat hon hP hB hC hE hA hl
 go_enter func36,ntmps36
 go_upto_region 1 with fail
 rw[HW0.out]
 go_wp2_with fail
 refine HAT.out.mono ?_
 rintro e w1 ⟨rfl,hb1⟩
 have HB1:=KO (aa HB0.out hb1)
 have HQ01:=KO (HQ0.out.below hb1 HQ0.out.lt)
 have HQ11:=KO (HQ1.out.below hb1 HQ1.out.lt)
 clear hb1
 go_upto_region 2 with fail
 obtain⟨w2,hw2⟩:∃w2,w1.alloc (.cells #[.int .i64 P.key,.int .i64 P.val] 55)=w2:=⟨_,rfl⟩
 have hb2:Below w1.heap.size w1 w2:=by rw[<-hw2];exact(KR _ _).alloc (KS _) _
 have b2:Blk w2 w1.heap.size 55 #[.int .i64 P.key,.int .i64 P.val]:=by rw[<-hw2];exact Blk.new _ _ _
 rw[hw2]
 clear hw2
 have HB2:=KO (aa HB1.out hb2)
 have HQ02:=KO (HQ01.out.below hb2 HQ01.out.lt)
 have HQ12:=KO (HQ11.out.below hb2 HQ11.out.lt)
 have d0:w2.cell? ⟨w1.heap.size,0,none⟩=some (.int .i64 P.key):=b2.cell 0
 have d1:w2.cell? ⟨w1.heap.size,1,none⟩=some (.int .i64 P.val):=b2.cell 1
 clear hb2 b2
 try dsimp only[]
 repeat (first|refine eX HQ02.out 0 underlying42 af rfl rfl rfl rfl ?_|go_values|go_skip|go_guarded|go_step|go_upon)
 refine(HON.out _).mono ?_
 rintro e w3 ⟨rfl,hb3⟩
 have HB3:=KO (aa HB2.out hb3)
 have HQ03:=KO (HQ02.out.below hb3 HQ02.out.lt)
 have HQ13:=KO (HQ12.out.below hb3 HQ12.out.lt)
 clear hb3 d0 d1
 have d0:w3.cell? ⟨(w.heap.size+1),0,none⟩=some (.int .u64 0):=HQ13.out.cell 0
 have d1:w3.cell? ⟨(w.heap.size+1),1,none⟩=some (.bool false):=HQ13.out.cell 1
 have d2:w3.cell? ⟨(w.heap.size+1),2,none⟩=some (.int .i64 0):=HQ13.out.cell 2
 have f0:w3.frozen? ⟨(w.heap.size+1),0,none⟩=false:=HQ13.out.frozen 0
 have f1:w3.frozen? ⟨(w.heap.size+1),1,none⟩=false:=HQ13.out.frozen 1
 have f2:w3.frozen? ⟨(w.heap.size+1),2,none⟩=false:=HQ13.out.frozen 2
 go_wp2_with fail
 have hR:=KO (HQ13.out.set3 (.int .u64 C.ver) (.bool C.on) (.int .i64 C.key))
 have e0:=hR.out.cell 0
 have e1:=hR.out.cell 1
 have e2:=hR.out.cell 2
 simp only[LG,Lb,La]at e0 e1 e2
 refine KV (v:= .tuple #[.agg #[.int .u64 C.ver,.bool C.on,.int .i64 C.key],.int .i64 E]) (by simp[results,results36,go_sem,e0,e1,e2]) rfl ?_
 exact⟨rfl,(((HB3.out.setCell (p:=⟨(w.heap.size+1),0,none⟩) (by show w.heap.size<=(w.heap.size+1);omega) _).setCell (p:=⟨(w.heap.size+1),1,none⟩) (by show w.heap.size<=(w.heap.size+1);omega) _).setCell (p:=⟨(w.heap.size+1),2,none⟩) (by show w.heap.size<=(w.heap.size+1);omega) _)⟩
theorem gD:(prog.info? 44).map (·.size)=some 3:=by kernel_rfl
theorem Ej {c:Cfg} (h:iP c=0):c.most<=16384:=by
 have hk:lW c=true:=by
  unfold iP at h
  by_cases hk:lW c=true
  ·exact hk
  ·rw[if_neg hk]at h;omega
 exact(jv hk).m.2
theorem kL {m:Mv} (ho:MvOk m) (he:aV m=0):(allM m).length<=16384:=by
 have h2:=(lF he).2
 unfold eD at h2
 unfold allM
 split
 ·rename_i ht;have:=ho.pma.kl;have:=lu m.ps;omega
 ·split
  ·have:=ho.cob.kl;have:=lu m.bs;omega
  ·rename_i h3 h4
   rw[if_neg h3,if_neg h4]at h2
   have h5:=lT h2
   have h6:=Ej h5.1
   have h7:=h5.2.2.1
   omega
def kw (ver:Int) (P:List Pr) (k:Nat):Cu:=if k< P.length then⟨ver,true,(P[k]!).key⟩else⟨ver,false,0⟩
def dQ (m:Mv) (cu:Cu) (most:Int):Int:=if dA m cu=0 then(if 0<=most/\most<=1000 then 0 else 2)else dA m cu
def iV (m:Mv) (cu:Cu) (most:Int):List Pr:=if dQ m cu most=0 then((allM m).drop (bel (allM m) cu.key)).take most.toNat else[]
def kz (m:Mv) (cu:Cu) (most:Int):Cu:=if dQ m cu most=0 then(if most=0 then cu else kw m.ver (allM m) (bel (allM m) cu.key+most.toNat))else tQ
theorem oW {W W1:World} {X:Nat->Prop} {t:TypeId} {l:List Pr} {n:Nat} {A:Option Addr} {v:Value} (hn:l.length=n) (h1:0< n->W1.ownsRow W.heap.size t 2 v (0+n) ([]++l.flatMap Pr.cells)) (h2:n=0->v= .slice A 0 0/\W1=W) (hg:W.grownBy W1 none) (hX:∀k,X k->k< W.heap.size):
  ∃(A4:Option Addr) (c4:Nat),v= .slice A4 l.length c4/\Held X (fun W=>Sl W A4 (l.flatMap Pr.cells)) W1/\Below W.heap.size W W1:=by
 subst hn
 have hb:Below W.heap.size W W1:=(KR _ _).grown hg (KS _) (fun k hk=>by cases hk)
 by_cases h0:l.length=0
 ·obtain⟨rfl,rfl⟩:=h2 h0
  have hl:=List.eq_nil_of_length_eq_zero h0
  subst hl
  exact⟨A,0,rfl,fun _ _=> .inl rfl,hb⟩
 ·have h3:=h1 (by omega)
  rw[Nat.zero_add,LA]at h3
  obtain⟨A4,c4,rfl,_,_⟩:=ak h3
  exact⟨A4,c4,rfl,fun w2 hm=>aA (di h3 hm (fun k hk hx=>by have:=hX k hx;omega)),hb⟩
def jZ (l:List Pr) (C:Cu) (e:Int) (w:World) (r:Ending) (w':World):Prop:=∃A c,r= .returned (.tuple #[.slice A l.length c,.agg C.row,.int .i64 e])/\Sl w' A (l.flatMap Pr.cells)/\Below w.heap.size w w'
theorem zD (m:Mv) (cu:Cu) (most:Int) (w:World) (hs:MvAt w m) (ho:MvOk m) (hz:dA m cu≠0):
  Calls prog 8 #[.agg m.row,.agg cu.row,.int .i64 most] w (jZ [] tQ (dA m cu) w):=by
 obtain⟨W0,hW0⟩:∃W,(((w.alloc (.cells m.row 42)).alloc (.cells #[.int .u64 cu.ver,.bool cu.on,.int .i64 cu.key] 44)).alloc (.cells #[.int .u64 0,.bool false,.int .i64 0] 44))=W:=⟨_,rfl⟩
 have hb0:Below w.heap.size w W0:=by rw[<-hW0];exact((((KR _ _).alloc (by first|exact KS _|(simp;done)|(simp;omega)) _).alloc (by first|exact KS _|(simp;done)|(simp;omega)) _).alloc (by first|exact KS _|(simp;done)|(simp;omega)) _)
 have bq0:Blk W0 w.heap.size 42 m.row:=by rw[<-hW0];exact(((Blk.new _ _ _).alloc _).alloc _)
 have HQ0:=KO bq0
 have bq1:Blk W0 (w.heap.size+1) 44 #[.int .u64 cu.ver,.bool cu.on,.int .i64 cu.key]:=by rw[<-hW0];exact((aj (by simp)).alloc _)
 have HQ1:=KO bq1
 have bq2:Blk W0 (w.heap.size+2) 44 #[.int .u64 0,.bool false,.int .i64 0]:=by rw[<-hW0];exact(aj (by simp))
 have HQ2:=KO bq2
 have HW0:=KO hW0
 have HB0:=KO hb0
 clear hW0 hb0 bq0 bq1 bq2
 have has:=gM m W0 (hs.below HB0.out) ho
 have hof:=fun W=>kW m cu W
 rw[fQ]at hz ⊢
 obtain⟨E,hE⟩:∃E,aV m=E:=⟨_,rfl⟩
 rw[hE]at has hz ⊢
 obtain⟨O,hO⟩:∃O,Fu m cu=O:=⟨_,rfl⟩
 rw[hO]at hof hz ⊢
 have HOF:=KO hof
 clear hof hO
 have a0:=HQ1.out.cell
 by_cases he:E=0
 case neg=>
  rw[if_neg he]
  rw[if_neg he]at has
  have HAS:=KO has
  clear has hE hs ho hz
  clear a0
  go_enter func8,ntmps8
  go_upto_region 1 with fail
  rw[HW0.out]
  try dsimp only[]
  repeat (first|refine eX HQ0.out 0 underlying42 af rfl rfl rfl rfl ?_|go_values|go_skip|go_guarded|go_step|go_upon)
  refine HAS.out.mono ?_
  rintro e w1 ⟨A,c,rfl,ho1,hb1⟩
  have HB1:=KO (aa HB0.out hb1)
  have HQ21:=KO (HQ2.out.below hb1 HQ2.out.lt)
  clear hb1 ho1
  have d0:=HQ21.out.cell
  have f0:=HQ21.out.frozen
  go_wp2_with fail
  have hR:=KO (HQ21.out.set3 (.int .u64 0) (.bool false) (.int .i64 0))
  have e0:=hR.out.cell
  simp only[LG,Lb,La]at e0
  refine KV (v:= .tuple #[.slice none 0 0,.agg #[.int .u64 0,.bool false,.int .i64 0],.int .i64 E]) (by simp[results,results8,go_sem,(e0 0),(e0 1),(e0 2)]) rfl ?_
  exact⟨none,0,rfl,.inl rfl,(((HB1.out.setCell (p:=⟨(w.heap.size+2),0,none⟩) (by show w.heap.size<=(w.heap.size+2);omega) _).setCell (p:=⟨(w.heap.size+2),1,none⟩) (by show w.heap.size<=(w.heap.size+2);omega) _).setCell (p:=⟨(w.heap.size+2),2,none⟩) (by show w.heap.size<=(w.heap.size+2);omega) _)⟩
 case pos=>
 subst he
 rw[if_pos rfl]at hz ⊢
 rw[if_pos rfl]at has
 have HAS:=KO has
 clear has hE hs ho
 go_enter func8,ntmps8
 go_upto_region 1 with fail
 rw[HW0.out]
 try dsimp only[]
 repeat (first|refine eX HQ0.out 0 underlying42 af rfl rfl rfl rfl ?_|go_values|go_skip|go_guarded|go_step|go_upon)
 refine HAS.out.mono ?_
 rintro e w1 ⟨A,c,rfl,ho1,hb1⟩
 have HB1:=KO (aa HB0.out hb1)
 have HQ01:=KO (HQ0.out.below hb1 HQ0.out.lt)
 have HQ11:=KO (HQ1.out.below hb1 HQ1.out.lt)
 have HQ21:=KO (HQ2.out.below hb1 HQ2.out.lt)
 clear hb1 ho1 a0
 have a0:=HQ11.out.cell
 go_upto_region 3 with fail
 try dsimp only[]
 repeat (first|refine eX HQ01.out 0 underlying42 af rfl rfl rfl rfl ?_|go_values|go_skip|go_guarded|go_step|go_upon)
 refine(HOF.out _).mono ?_
 rintro e w2 ⟨rfl,hb2⟩
 have HB2:=KO (aa HB1.out hb2)
 have HQ22:=KO (HQ21.out.below hb2 HQ21.out.lt)
 clear hb2 a0
 have d0:=HQ22.out.cell
 have f0:=HQ22.out.frozen
 go_wp2_with fail
 have hR:=KO (HQ22.out.set3 (.int .u64 0) (.bool false) (.int .i64 0))
 have e0:=hR.out.cell
 simp only[LG,Lb,La]at e0
 refine KV (v:= .tuple #[.slice none 0 0,.agg #[.int .u64 0,.bool false,.int .i64 0],.int .i64 O]) (by simp[results,results8,go_sem,(e0 0),(e0 1),(e0 2)]) rfl ?_
 exact⟨none,0,rfl,.inl rfl,(((HB2.out.setCell (p:=⟨(w.heap.size+2),0,none⟩) (by show w.heap.size<=(w.heap.size+2);omega) _).setCell (p:=⟨(w.heap.size+2),1,none⟩) (by show w.heap.size<=(w.heap.size+2);omega) _).setCell (p:=⟨(w.heap.size+2),2,none⟩) (by show w.heap.size<=(w.heap.size+2);omega) _)⟩
theorem BC (m:Mv) (cu:Cu) (most:Int) (w:World) (hs:MvAt w m) (ho:MvOk m) (hz:dA m cu=0) (hm:¬(0<=most/\most<=1000)):
  Calls prog 8 #[.agg m.row,.agg cu.row,.int .i64 most] w (jZ [] tQ 2 w):=by
 obtain⟨W0,hW0⟩:∃W,(((w.alloc (.cells m.row 42)).alloc (.cells #[.int .u64 cu.ver,.bool cu.on,.int .i64 cu.key] 44)).alloc (.cells #[.int .u64 0,.bool false,.int .i64 0] 44))=W:=⟨_,rfl⟩
 have hb0:Below w.heap.size w W0:=by rw[<-hW0];exact((((KR _ _).alloc (by first|exact KS _|(simp;done)|(simp;omega)) _).alloc (by first|exact KS _|(simp;done)|(simp;omega)) _).alloc (by first|exact KS _|(simp;done)|(simp;omega)) _)
 have bq0:Blk W0 w.heap.size 42 m.row:=by rw[<-hW0];exact(((Blk.new _ _ _).alloc _).alloc _)
 have HQ0:=KO bq0
 have bq1:Blk W0 (w.heap.size+1) 44 #[.int .u64 cu.ver,.bool cu.on,.int .i64 cu.key]:=by rw[<-hW0];exact((aj (by simp)).alloc _)
 have HQ1:=KO bq1
 have bq2:Blk W0 (w.heap.size+2) 44 #[.int .u64 0,.bool false,.int .i64 0]:=by rw[<-hW0];exact(aj (by simp))
 have HQ2:=KO bq2
 have HW0:=KO hW0
 have HB0:=KO hb0
 clear hW0 hb0 bq0 bq1 bq2
 have hem:aV m=0:=by
  rw[fQ]at hz
  by_cases h:aV m=0
  ·exact h
  ·rw[if_neg h]at hz;exact absurd hz h
 have hoz:Fu m cu=0:=by rw[fQ,if_pos hem]at hz;exact hz
 have has:=gM m W0 (hs.below HB0.out) ho
 have hof:=fun W=>kW m cu W
 rw[hem,if_pos rfl]at has
 rw[hoz]at hof
 have HOF:=KO hof
 have HAS:=KO has
 have a0:=HQ1.out.cell
 have hft:∀W,Calls prog 34 #[.int .i64 most] W (fun r w'=>r= .returned (.bool false)/\Below W.heap.size W w'):=fun W=>by have:=ku most W;rw[decide_eq_false hm]at this;exact this
 have HFT:=KO hft
 clear has hof hem hoz hz hs ho hft hm
 go_enter func8,ntmps8
 go_upto_region 1 with fail
 rw[HW0.out]
 try dsimp only[]
 repeat (first|refine eX HQ0.out 0 underlying42 af rfl rfl rfl rfl ?_|go_values|go_skip|go_guarded|go_step|go_upon)
 refine HAS.out.mono ?_
 rintro e w1 ⟨A,c,rfl,ho1,hb1⟩
 have HB1:=KO (aa HB0.out hb1)
 have HQ01:=KO (HQ0.out.below hb1 HQ0.out.lt)
 have HQ11:=KO (HQ1.out.below hb1 HQ1.out.lt)
 have HQ21:=KO (HQ2.out.below hb1 HQ2.out.lt)
 have HOW:=KO ho1
 clear hb1 ho1 a0
 have a0:=HQ11.out.cell
 go_upto_region 3 with fail
 try dsimp only[]
 repeat (first|refine eX HQ01.out 0 underlying42 af rfl rfl rfl rfl ?_|go_values|go_skip|go_guarded|go_step|go_upon)
 refine(HOF.out _).mono ?_
 rintro e w2 ⟨rfl,hb2⟩
 have HB2:=KO (aa HB1.out hb2)
 have HQ02:=KO (HQ01.out.below hb2 HQ01.out.lt)
 have HQ12:=KO (HQ11.out.below hb2 HQ11.out.lt)
 have HQ22:=KO (HQ21.out.below hb2 HQ21.out.lt)
 have HSM:=KO ((aA HOW.out).below hb2)
 clear hb2 a0
 have a0:=HQ12.out.cell
 go_wp2_with fail
 refine(HFT.out _).mono ?_
 rintro e w3 ⟨rfl,hb3⟩
 have HB3:=KO (aa HB2.out hb3)
 have HQ23:=KO (HQ22.out.below hb3 HQ22.out.lt)
 clear hb3 a0
 have d0:=HQ23.out.cell
 have f0:=HQ23.out.frozen
 go_wp2_with fail
 have hR:=KO (HQ23.out.set3 (.int .u64 0) (.bool false) (.int .i64 0))
 have e0:=hR.out.cell
 simp only[LG,Lb,La]at e0
 refine KV (v:= .tuple #[.slice none 0 0,.agg #[.int .u64 0,.bool false,.int .i64 0],.int .i64 2]) (by simp[results,results8,go_sem,(e0 0),(e0 1),(e0 2)]) rfl ?_
 exact⟨none,0,rfl,.inl rfl,(((HB3.out.setCell (p:=⟨(w.heap.size+2),0,none⟩) (by show w.heap.size<=(w.heap.size+2);omega) _).setCell (p:=⟨(w.heap.size+2),1,none⟩) (by show w.heap.size<=(w.heap.size+2);omega) _).setCell (p:=⟨(w.heap.size+2),2,none⟩) (by show w.heap.size<=(w.heap.size+2);omega) _)⟩
section
open Go.Shelf
attribute [local go_sem] Oper.semAt_some
def frX (P:List Pr) (K i:Nat):Array Value:=#[.agg #[.int .i64 (yT P (K+i)).key,.int .i64 (yT P (K+i)).val]]
def Jg (gp pb:Nat) (A:Option Addr) (P:List Pr) (b:Nat):Prop:=b=gp∨b=pb∨∃a,P≠[]/\A=some a/\b=a.block
def Kj (gp:Nat) (v:Int) (A:Option Addr) (P:List Pr) (c K i:Nat) (W:World):Prop:=Blk W gp 82 (jH (kw v P (K+i+1)).ver (kw v P (K+i+1)).on (kw v P (K+i+1)).key A P c)
def Ku (gp:Nat) (v:Int) (A:Option Addr) (P:List Pr) (c K:Nat) (W:World):Prop:=K< P.length->Blk W gp 82 (jH v false 0 A P c)
theorem dJ {w w':World} {g:Nat} {ty:TypeId} {row:Array Value} (h:Blk w g ty row) (he:w'.heap[g]?=w.heap[g]?):Blk w' g ty row:=he.trans h
theorem Hy {w w':World} {A:Option Addr} {xs:List Value} (h:Sl w A xs) (hs:w.heap.size<=w'.heap.size) (he:∀a,A=some a->w'.heap[a.block]?=w.heap[a.block]?):Sl w' A xs:=by
 rcases h with h|⟨b,off,hA,hlt,hc⟩
 ·exact .inl h
 ·exact .inr ⟨b,off,hA,Nat.lt_of_lt_of_le hlt hs,fun j u hu=>(World.cell?_of_block (a:=⟨b,off+j,none⟩) (he ⟨b,off,none⟩ hA)).trans (hc j u hu)⟩
structure FrAt (w:World) (gp pb:Nat) (v:Int) (A:Option Addr) (P:List Pr) (c:Nat) (x1 x2:Value):Prop where
 box:Blk w pb 77 #[.pointer (some ⟨gp,0,none⟩)]
 pl:Blk w gp 82 #[.int .u64 v,x1,x2,.slice A P.length c]
 sl:Sl w A (P.flatMap Pr.cells)
theorem FrAt.of {w w':World} {gp pb:Nat} {v:Int} {A:Option Addr} {P:List Pr} {c:Nat} {x1 x2:Value} (h:FrAt w gp pb v A P c x1 x2) (hs:w.heap.size<=w'.heap.size) (he:∀b,Jg gp pb A P b->w'.heap[b]?=w.heap[b]?):FrAt w' gp pb v A P c x1 x2:=
 ⟨dJ h.box (he _ (.inr (.inl rfl))),dJ h.pl (he _ (.inl rfl)),by
  by_cases hP:P=[]
  ·subst hP;exact .inl rfl
  ·exact Hy h.sl hs (fun a ha=>he _ (.inr (.inr ⟨a,hP,ha,rfl⟩)))⟩
theorem FrAt.below {w w':World} {gp pb:Nat} {v:Int} {A:Option Addr} {P:List Pr} {c:Nat} {x1 x2:Value} (h:FrAt w gp pb v A P c x1 x2) (hb:Below w.heap.size w w'):FrAt w' gp pb v A P c x1 x2:=⟨h.box.below hb h.box.lt,h.pl.below hb h.pl.lt,h.sl.below hb⟩
theorem jb {P:Prop} (h:P:=by
  iterate 8 apply Exists.intro
  refine⟨rfl,?_,?_,?_,?_,?_,?_,?_,?_,?_,?_,?_,?_,?_,?_,?_,?_⟩
  ·first|exact HW.out|exact fun _=>rfl|(intro h;refine absurd h ?_;simp;done;done)
  ·first|exact HY.out|exact fun _=>hb1|exact(fun h=>absurd (show L 6=true by simpa using h) (by rw[hlast];exact KP))
  ·first|exact F0.out|exact fun _=>rfl
  ·first|exact F1.out|exact fun _=>rfl
  ·first|exact F2.out|exact fun _=>rfl
  ·first|exact F3.out|exact fun _=>rfl
  ·first|exact F4.out|exact fun _=>rfl
  ·first|exact F5.out|exact fun _=>rfl
  ·first|exact F6.out|exact fun _=>rfl
  ·first|exact F7.out|exact fun _=>rfl
  ·first|(intro h;have hh:=C2.out (by simpa using h);simp[hh];done)|(intro _;simp[hl1];done)
  ·first|(intro h;have hh:=C3.out (by simpa using h);simp[hh];done)|(intro _;simp[hl2];done)
  ·first|(intro h;have hh:=C4.out (by simpa using h);simp[hh];done)|(intro _;simp[hl3];done)
  ·first|(intro h;have hh:=C5.out (by simpa using h);simp[hh];done)|(intro _;simp[hl4];done)
  ·first|(intro h;have hh:=C6.out (by simpa using h);simp[hh];done)|(intro _;simp[hl0,hl5];done)
  ·first|(intro h;have hh:=C7.out (by simpa using h);simp[hh];done)|(intro _;simp[hl6];done)):P:=h
theorem Ei (gp pb:Nat) (v:Int) (on:Bool) (key:Int) (A:Option Addr) (P:List Pr) (c K:Nat) (w:World) (hf:FrAt w gp pb v A P c (.bool on) (.int .i64 key)) (hlc:P.length<=c) (hl:P.length<=16384) (hr:Ris P) (hne:∀a,A=some a->a.block≠gp) (hpb:pb≠gp) (hK:bel P key=K):
  BG Fence.wide prog 55 #[.pointer (some ⟨pb,0,none⟩)] (P.length-K) (frX P K) (Jg gp pb A P) (Kj gp v A P c K) (Ku gp v A P c K) (fun b=>b=gp) w:=by
 intro y I X W0 hsz hKp hI hX hY h0
 have hfW:=hf.of hsz hKp
 have hdd:∀k:Nat,(Fence.wide.depth.isSome=true->1<=k):=fun k h=>by cases h
 have hwf:∀f,Fence.wide.fn f:=fun _=>trivial
 have hdp:Fence.wide.depth=none:=rfl
 have hro:Fence.wide.round=none:=rfl
 have HH:=KO (KW hI (KW hX hY))
 have hrk:=rq gp v on key A P c key W0.drew (hfW.pl.drewN 1) (hfW.sl.below (KR _ _).drew) hlc hl hr
 rw[hK]at hrk
 have hKl:K<=P.length:=by rw[<-hK];exact kP P key
 have HRK:=KO hrk
 have HF0:=KO (hfW.below (KR _ _).drew)
 have HI0:=KO (hI 0 W0 W0.drew h0 (Mod.of_ext (KR _ _).drew))
 have HNE:=KO (KW hne hpb)
 have HN:=KO (KW hKl (KW hl hlc))
 clear hI hX hY hKp hf hfW hrk hK hKl hlc hl hr hne hpb h0 hsz
 refine callsIn_of_wp func55 rfl (hwf _) ?_ hro
 simp only[ntmps55,Ll,List.length_cons,List.length_nil,LD,LF,Array.replicate_succ,Array.replicate_zero,Mq,Me,LA,Mr]
 gi_wp2
 refine dY (by kernel_rfl) (by kernel_rfl) (fun L a W=>∃(t7 t8 t9 t10 t11 t12 t13 t3:Value),a=⟨#[.func (.yield y) #[] #[],.pointer (some ⟨pb,0,none⟩),undef,t3,undef,undef,undef,t7,t8,t9,t10,t11,t12,t13,undef,undef,undef,undef,undef,undef,undef,undef,undef,undef,undef,undef,undef,undef,undef,undef,undef,undef,undef,undef,undef,undef,undef,undef,undef,undef,undef,undef,undef,undef,undef,undef,undef,undef,undef,undef,undef],[]⟩/\(L 6=false->W=W0.drew)/\(L 6=true->Below W0.drew.heap.size W0.drew W)/\(L 0=true->t7= .pointer (some ⟨gp,0,none⟩))/\(L 1=true->t8= .pointer (some ⟨gp,0,none⟩))/\(L 2=true->t9= .pointer (some ⟨gp,0,none⟩))/\(L 3=true->t10= .pointer (some ⟨gp,0,none⟩))/\(L 4=true->t11= .pointer (some ⟨gp,2,none⟩))/\(L 5=true->t12= .int .i64 key)/\(L 6=true->t13= .int .i64 (K:Nat))/\(L 7=true->t3= .int .i64 (K:Nat))/\(L 2=true->L 1=true)/\(L 3=true->L 2=true)/\(L 4=true->L 3=true)/\(L 5=true->L 4=true)/\(L 6=true->L 0=true/\L 5=true)/\(L 7=true->L 6=true)) ?h0 ?hstep ?hend
 case h0=>exact⟨undef,undef,undef,undef,undef,undef,undef,undef,rfl,fun _=>rfl,fun h=>absurd h KP,fun h=>absurd h KP,fun h=>absurd h KP,fun h=>absurd h KP,fun h=>absurd h KP,fun h=>absurd h KP,fun h=>absurd h KP,fun h=>absurd h KP,fun h=>absurd h KP,fun h=>absurd h KP,fun h=>absurd h KP,fun h=>absurd h KP,fun h=>absurd h KP,fun h=>absurd h KP,fun h=>absurd h KP⟩
 case hend=>
  rintro L a W hall ⟨t7,t8,t9,t10,t11,t12,t13,t3,rfl,hw,hy,f0,f1,f2,f3,f4,f5,f6,f7,c2,c3,c4,c5,c6,c7⟩
  have z0:=f0 (hall 0 (by decide))
  have z1:=f1 (hall 1 (by decide))
  have z2:=f2 (hall 2 (by decide))
  have z3:=f3 (hall 3 (by decide))
  have z4:=f4 (hall 4 (by decide))
  have z5:=f5 (hall 5 (by decide))
  have z6:=f6 (hall 6 (by decide))
  have z7:=f7 (hall 7 (by decide))
  have zy:=hy (hall 6 (by decide))
  clear hall hw hy f0 f1 f2 f3 f4 f5 f6 f7 c2 c3 c4 c5 c6 c7
  obtain rfl:=z7
  have HF1:=KO (HF0.out.below zy)
  have hi1:I 0 W:=HH.out.1 0 W0.drew W HI0.out (Mod.of_ext zy)
  clear z0 z1 z2 z3 z4 z5 z6 zy
  gi_wp2
  gi_loopw [3] (fun e wr=>∃(i:Nat) (o:Bool) (k:Int),i<=P.length-K/\e= .int .i64 ((K+i:Nat):Int)/\I i wr/\Hid (FrAt wr gp pb v A P c (.bool o) (.int .i64 k))/\Hid (i=P.length-K->K< P.length->o=false/\k=0)) (fun e _=>P.length-(intOf e).toNat)
  case atStart=>exact⟨0,on,key,Nat.zero_le _,rfl,hi1,HF1.out,fun h1 h2=>absurd h2 (by omega)⟩
  case round=>
   clear hi1
   obtain⟨i,o,k,hi,rfl,hik,hfr,hend⟩:=hrel
   have b0:wr.cell? ⟨pb,0,none⟩=some (.pointer (some ⟨gp,0,none⟩)):=hfr.out.box.cell 0
   have p3:wr.cell? ⟨gp,3,none⟩=some (.slice A P.length c):=hfr.out.pl.cell 3
   obtain⟨j,hj⟩:∃j,K+i=j:=⟨_,rfl⟩
   rw[hj]
   by_cases hlt:i< P.length-K
   ·have hjl:j< P.length:=by omega
    obtain⟨b,off,hA,hbl,c1,c2⟩:=hfr.out.sl.prB (KR _ wr) j hjl
    obtain⟨p,hp⟩:∃p,P[j]'hjl=p:=⟨_,rfl⟩
    rw[hp]at c1 c2
    rw[hA]at p3
    have HX:=KO (show frX P K i=#[.agg #[.int .i64 p.key,.int .i64 p.val]]by unfold frX yT;rw[hj,Lf,K7 hjl,<-hp];rfl)
    have HI:=KO hik
    have HJ:=KO (KW hj (KW hlt hjl))
    have HA:=KO hA
    have i0:(0:Int)<=(j:Int):=by omega
    have i1:(j:Int)< (P.length:Int):=by omega
    have hwr:IntKind.i64.wrap ((j:Int)+1)=((j+1:Nat):Int):=by rw[IntWalk.i64_in _ (by have:=HN.out;omega)];omega
    have HWR:=KO hwr
    have lp:gp< wr.heap.size:=hfr.out.pl.lt
    have lb:pb< wr.heap.size:=hfr.out.box.lt
    clear hik hj hlt hA hi hp hend
    obtain⟨W4,hW4⟩:∃W4,wr.alloc (.cells #[.int .i64 p.key,.int .i64 p.val] 55)=W4:=⟨_,rfl⟩
    have hb4:Below wr.heap.size wr W4:=by rw[<-hW4];exact(KR _ _).alloc (KS _) _
    have bx4:Blk W4 wr.heap.size 55 #[.int .i64 p.key,.int .i64 p.val]:=by rw[<-hW4];exact Blk.new _ _ _
    have HF4:=KO (hfr.out.below hb4)
    have HB4:=KO hb4
    have HX4:=KO bx4
    have HW4:=KO hW4
    clear hb4 bx4 hW4 hjl
    by_cases hyes:j+1< P.length
    ·have hto:=Jm gp v o k A P c (j+1) W4 HF4.out.pl HF4.out.sl hyes HNE.out.1
     obtain⟨kk,hkk⟩:∃kk,(P[j+1]'hyes).key=kk:=⟨_,rfl⟩
     rw[hkk]at hto
     have HTO:=KO hto
     have hsk:kw v P (K+i+1)=⟨v,true,kk⟩:=by unfold kw;rw[show K+i+1=j+1 by have:=HJ.out.1;omega,if_pos hyes,getElem!_pos P (j+1) hyes,hkk]
     have HYY:=KO (show∀w1,Mod (fun b=>b=gp) W4 w1->Blk w1 gp 82 (jH v true kk A P c)->FrAt (w1.alloc (.cells #[.int .u64 v,.bool true,.int .i64 kk] 44)) gp pb v A P c (.bool true) (.int .i64 kk)/\YieldAt Fence.wide 0 prog y #[.agg #[.int .i64 p.key,.int .i64 p.val]] (w1.alloc (.cells #[.int .u64 v,.bool true,.int .i64 kk] 44)) (fun e B=>(e= .returned (.bool true)/\I (i+1) B/\(w1.alloc (.cells #[.int .u64 v,.bool true,.int .i64 kk] 44)).heap.size<=B.heap.size/\∀b,Jg gp pb A P b->B.heap[b]?=(w1.alloc (.cells #[.int .u64 v,.bool true,.int .i64 kk] 44)).heap[b]?)∨(e= .returned (.bool false)/\X B))from fun w1 hm hb=>by
      refine⟨⟨(HF4.out.box.mod hm HNE.out.2).alloc _,hb.alloc _,(HF4.out.sl.mod hm HNE.out.1).below ((KR _ _).alloc (KS _) _)⟩,?_⟩
      have hyy:=HH.out.2.2 i (w1.alloc (.cells #[.int .u64 v,.bool true,.int .i64 kk] 44)) HJ.out.2.1 (HH.out.1 i W4 _ (HH.out.1 i wr W4 HI.out (Mod.of_ext HB4.out)) (hm.ext ((KR _ _).alloc (KS _) _))) (by unfold Kj;rw[hsk];exact hb.alloc _)
      rw[HX.out]at hyy
      exact hyy)
     clear hto hsk hkk
     gi_wp2_with ((try rw[HW4.out]);(try first|refine⟨hdp,?_⟩|refine⟨hdd _,?_⟩);gi_at_call 44;refine(callsIn_wide.2 HTO.out).mono ?_;rintro e w1 ⟨rfl,hm1,hk1⟩;have hx0:w1.cell? ⟨wr.heap.size,0,none⟩=some (.int .i64 p.key):=(HX4.out.mod hm1 (fun q=>Nat.ne_of_gt lp q)).cell 0;have hx1:w1.cell? ⟨wr.heap.size,1,none⟩=some (.int .i64 p.val):=(HX4.out.mod hm1 (fun q=>Nat.ne_of_gt lp q)).cell 1;have hxl:wr.heap.size< w1.heap.size:=Nat.lt_of_lt_of_le HX4.out.lt hm1.size;obtain⟨hf7,fn,tmps,assign,body,hy,hR⟩:=HYY.out w1 hm1 hk1;have HRR:=KO hR;have HF7:=KO hf7;clear hR hf7 hm1 hk1)
     refine HRR.out.mono ?_
     clear HRR hy
     intro e W2 hpost
     rcases hpost with⟨rfl,hi2,hs2,hk2⟩|⟨rfl,hx2⟩
     ·have HF2:=KO (HF7.out.of hs2 hk2)
      have HI2:=KO hi2
      clear hi2 hs2 hk2 hx0 hx1 hxl
      gi_wp2
      go_roundw
      case rel=>exact⟨i+1,true,kk,by have:=HJ.out;omega,by have:=HJ.out.1;first|(show _=_;go_num)|(congr 1;omega),HI2.out,HF2.out,fun h1 h2=>absurd h1 (by have:=HJ.out;omega)⟩
      case measure=>have:=HJ.out;simp[intOf];omega
     ·have HX2:=KO hx2
      clear hx2 hx0 hx1 hxl
      gi_wp2
      first|refine KV (L6 rfl _ _ _) rfl ?_|refine M0 (L6 rfl _ _ _) rfl ?_
      exact⟨⟨_,rfl⟩,.inr HX2.out⟩
    ·have hto:=J6 gp v o k A P c ((j+1:Nat):Int) W4 HF4.out.pl (by omega)
     have HTO:=KO hto
     have HNO:=KO hyes
     clear hto hyes
     gi_wp2_with ((try rw[HW4.out]);(try first|refine⟨hdp,?_⟩|refine⟨hdd _,?_⟩);gi_at_call 44;refine(callsIn_wide.2 HTO.out).mono ?_;rintro e w1 ⟨rfl,hb1⟩;have hx:=HX4.out.below hb1 HX4.out.lt;have hf:=HF4.out.below hb1;have hx0:w1.cell? ⟨wr.heap.size,0,none⟩=some (.int .i64 p.key):=hx.cell 0;have hx1:w1.cell? ⟨wr.heap.size,1,none⟩=some (.int .i64 p.val):=hx.cell 1;have hxl:wr.heap.size< w1.heap.size:=hx.lt;have hgl:gp< w1.heap.size:=hf.pl.lt;have hpl:pb< w1.heap.size:=hf.box.lt;have hg0:w1.cell? ⟨pb,0,none⟩=some (.pointer (some ⟨gp,0,none⟩)):=hf.box.cell 0;have hg1:w1.cell? ⟨gp,1,none⟩=some (.bool o):=hf.pl.cell 1;have hg2:w1.cell? ⟨gp,2,none⟩=some (.int .i64 k):=hf.pl.cell 2;have hg3:w1.frozen? ⟨gp,1,none⟩=false:=hf.pl.frozen 1;have hg4:w1.frozen? ⟨gp,2,none⟩=false:=hf.pl.frozen 2;have hg5:wr.heap.size≠gp:=Nat.ne_of_gt lp;have hg6:pb≠gp:=HNE.out.2;have HF1:=KO hf;have HX1:=KO hx;have HB1:=KO hb1;clear hf hx hb1)
     gi_region
     obtain⟨W7,hW7⟩:∃W7,(((w1.setCell ⟨gp,1,none⟩ (.bool false)).setCell ⟨gp,2,none⟩ (.int .i64 0)).alloc (.cells #[.int .u64 tQ.ver,.bool tQ.on,.int .i64 tQ.key] 44)).drew=W7:=⟨_,rfl⟩
     have hm7:Mod (fun b=>b=gp) w1 W7:=by
      rw[<-hW7]
      exact((((Mod.refl (fun b=>b=gp) w1).setCell (p:=⟨gp,1,none⟩) rfl _).setCell (p:=⟨gp,2,none⟩) rfl _).ext ((KR _ _).alloc (KS _) _)).drew
     have hk7:Blk W7 gp 82 (jH v false 0 A P c):=by
      rw[<-hW7]
      have hq:=((HF1.out.pl.set_ 1 (.bool false)).set_ 2 (.int .i64 0)).alloc (.cells #[.int .u64 tQ.ver,.bool tQ.on,.int .i64 tQ.key] 44)
      exact Blk.drewN (by simpa using hq) 1
     rw[hW7]
     clear hW7 hx0 hx1 hxl hgl hpl hg0 hg1 hg2 hg3 hg4 hg5 hg6
     have hsk:kw v P (K+i+1)=⟨v,false,0⟩:=by unfold kw;rw[show K+i+1=j+1 by have:=HJ.out.1;omega,if_neg HNO.out]
     have hf7:FrAt W7 gp pb v A P c (.bool false) (.int .i64 0):=⟨HF1.out.box.mod hm7 HNE.out.2,hk7,HF1.out.sl.mod hm7 HNE.out.1⟩
     have hyy:=HH.out.2.2 i W7 HJ.out.2.1 (HH.out.1 i w1 _ (HH.out.1 i W4 w1 (HH.out.1 i wr W4 HI.out (Mod.of_ext HB4.out)) (Mod.of_ext HB1.out)) hm7) (by unfold Kj;rw[hsk];exact hk7)
     rw[HX.out]at hyy
     obtain⟨fn,tmps,assign,body,hy,hR⟩:=hyy
     have HRR:=KO hR
     have HF7:=KO hf7
     have hx7:=HX1.out.mod hm7 (fun q=>Nat.ne_of_gt lp q)
     have hx0:W7.cell? ⟨wr.heap.size,0,none⟩=some (.int .i64 p.key):=hx7.cell 0
     have hx1:W7.cell? ⟨wr.heap.size,1,none⟩=some (.int .i64 p.val):=hx7.cell 1
     clear hR hf7 hm7 hk7 hsk hx7
     gi_wp2
     refine HRR.out.mono ?_
     clear HRR hy
     intro e W2 hpost
     rcases hpost with⟨rfl,hi2,hs2,hk2⟩|⟨rfl,hx2⟩
     ·have HF2:=KO (HF7.out.of hs2 hk2)
      have HI2:=KO hi2
      clear hi2 hs2 hk2 hx0 hx1
      gi_wp2
      go_roundw
      case rel=>exact⟨i+1,false,0,by have:=HJ.out;omega,by have:=HJ.out.1;first|(show _=_;go_num)|(congr 1;omega),HI2.out,HF2.out,fun h1 h2=>⟨rfl,rfl⟩⟩
      case measure=>have:=HJ.out;simp[intOf];omega
     ·have HX2:=KO hx2
      clear hx2 hx0 hx1
      gi_wp2
      first|refine KV (L6 rfl _ _ _) rfl ?_|refine M0 (L6 rfl _ _ _) rfl ?_
      exact⟨⟨_,rfl⟩,.inr HX2.out⟩
   ·have hin:i=P.length-K:=by omega
    have i1:¬(j:Int)< (P.length:Int):=by omega
    have HI2:=KO hik
    have HEE:=KO (show Ku gp v A P c K wr from fun hKl=>by
     obtain⟨rfl,rfl⟩:=hend.out hin hKl
     exact hfr.out.pl)
    rw[hin]at HI2
    clear hik hj hi hend hin
    gi_wp2
    first|refine KV (L6 rfl _ _ _) rfl ?_|refine M0 (L6 rfl _ _ _) rfl ?_
    exact⟨⟨_,rfl⟩,.inl ⟨HI2.out,HEE.out⟩⟩
 case hstep=>
  rintro L a W i o ho hLi hdep ⟨t7,t8,t9,t10,t11,t12,t13,t3,rfl,hw,hy,f0,f1,f2,f3,f4,f5,f6,f7,c2,c3,c4,c5,c6,c7⟩
  have HW:=KO hw
  have HY:=KO hy
  have F0:=KO f0
  have F1:=KO f1
  have F2:=KO f2
  have F3:=KO f3
  have F4:=KO f4
  have F5:=KO f5
  have F6:=KO f6
  have F7:=KO f7
  have C2:=KO c2
  have C3:=KO c3
  have C4:=KO c4
  have C5:=KO c5
  have C6:=KO c6
  have C7:=KO c7
  clear hw hy f0 f1 f2 f3 f4 f5 f6 f7 c2 c3 c4 c5 c6 c7
  have HLi:=KO hLi
  clear hLi
  match i,ho with
  |0,ho=>
   obtain rfl:=KQ ho
   clear hdep
   have hlast:L 6=false:=by
    cases h:L 6 with
    |false=>rfl
    |true=>exact absurd ((C6.out h).1) (by rw[HLi.out];exact KP)
   have hWA:=HW.out hlast
   subst hWA
   refine Le rfl (fun K1 hK1=>?_)
   have hK:=KO hK1
   clear hK1
   have q:=HF0.out.box.cell 0
   simp only[LG,Lb]at q
   gi_wp2
   refine hK.out _ _ ?_;exact jb
  |1,ho=>
   obtain rfl:=KQ ho
   clear hdep
   have hlast:L 6=false:=by
    cases h:L 6 with
    |false=>rfl
    |true=>exact absurd ((C2.out (C3.out (C4.out (C5.out (C6.out h).2))))) (by rw[HLi.out];exact KP)
   have hWA:=HW.out hlast
   subst hWA
   refine Le rfl (fun K1 hK1=>?_)
   have hK:=KO hK1
   clear hK1
   have q:=HF0.out.box.cell 0
   simp only[LG,Lb]at q
   gi_wp2
   refine hK.out _ _ ?_;exact jb
  |2,ho=>
   obtain rfl:=KQ ho
   have hl1:=hdep ⟨1,.data⟩ (by simp) rfl
   obtain rfl:=F1.out hl1
   clear hdep
   refine Le rfl (fun K1 hK1=>?_)
   have hK:=KO hK1
   clear hK1
   gi_wp2
   refine hK.out _ _ ?_;exact jb
  |3,ho=>
   obtain rfl:=KQ ho
   have hl2:=hdep ⟨2,.data⟩ (by simp) rfl
   obtain rfl:=F2.out hl2
   clear hdep
   refine Le rfl (fun K1 hK1=>?_)
   have hK:=KO hK1
   clear hK1
   gi_wp2
   refine hK.out _ _ ?_;exact jb
  |4,ho=>
   obtain rfl:=KQ ho
   have hl3:=hdep ⟨3,.data⟩ (by simp) rfl
   obtain rfl:=F3.out hl3
   clear hdep
   refine Le rfl (fun K1 hK1=>?_)
   have hK:=KO hK1
   clear hK1
   gi_wp2
   refine hK.out _ _ ?_;exact jb
  |5,ho=>
   obtain rfl:=KQ ho
   have hl4:=hdep ⟨4,.data⟩ (by simp) rfl
   obtain rfl:=F4.out hl4
   clear hdep
   have hlast:L 6=false:=by
    cases h:L 6 with
    |false=>rfl
    |true=>exact absurd ((C6.out h).2) (by rw[HLi.out];exact KP)
   have hWA:=HW.out hlast
   subst hWA
   refine Le rfl (fun K1 hK1=>?_)
   have hK:=KO hK1
   clear hK1
   have q:=HF0.out.pl.cell 2
   simp only[LG,Lb,La]at q
   gi_wp2
   refine hK.out _ _ ?_;exact jb
  |6,ho=>
   obtain rfl:=KQ ho
   have hl0:=hdep ⟨0,.data⟩ (by simp) rfl
   obtain rfl:=F0.out hl0
   have hl5:=hdep ⟨5,.data⟩ (by simp) rfl
   obtain rfl:=F5.out hl5
   clear hdep
   have hlast:=HLi.out
   have hWA:=HW.out hlast
   subst hWA
   refine Le rfl (fun K1 hK1=>?_)
   have hK:=KO hK1
   clear hK1
   gi_wp2_with ((try first|refine⟨hdp,?_⟩|refine⟨hdd _,?_⟩);gi_at_call 30;refine(callsIn_wide.2 HRK.out).mono ?_;rintro e w1 ⟨rfl,hb1⟩)
   refine hK.out _ _ ?_;exact jb
  |7,ho=>
   obtain rfl:=KQ ho
   have hl6:=hdep ⟨6,.data⟩ (by simp) rfl
   obtain rfl:=F6.out hl6
   clear hdep
   refine Le rfl (fun K1 hK1=>?_)
   have hK:=KO hK1
   clear hK1
   gi_wp2
   refine hK.out _ _ ?_;exact jb
end
theorem Jo {w:World} {B n s c:Nat} {e:TypeId} {A:Option Addr} {xs:List Value} (h:w.ownsRow B e s (.slice A n c) n xs):∀a,A=some a->a.block< w.heap.size:=by
 intro a ha
 exact(h.lt a.block (by simp[Value.ownBlock,ha])).2
def Iu (c:Cu) (l:List Pr) (w:World) (r:Ending) (w':World):Prop:=∃gp A k,r= .returned (.tuple #[.pointer (some ⟨gp,0,none⟩),.int .i64 0])/\w.heap.size<=gp/\Blk w' gp 82 (jH c.ver c.on c.key A l k)/\Sl w' A (l.flatMap Pr.cells)/\l.length<=k/\(∀a,A=some a->w.heap.size<=a.block/\a.block≠gp)/\Below w.heap.size w w'
theorem JF (m:Mv) (ver:Int) (on:Bool) (key:Int) (st:Bool) (w:World) (hs:MvAt w m) (ho:MvOk m) (hcp:m.ps.cs.length<=m.ps.cc) (hcb:m.bs.cs.length<=m.bs.cc) (he:aV m≠0):
  Calls prog 29 #[.agg m.row,.agg #[.int .u64 ver,.bool on,.int .i64 key],.bool st] w (fun r w'=>r= .returned (.tuple #[.pointer none,.int .i64 (aV m)])/\Below w.heap.size w w'):=by
 obtain⟨W0,hW0⟩:∃W,((w.alloc (.cells m.row 42)).alloc (.cells #[.int .u64 ver,.bool on,.int .i64 key] 44))=W:=⟨_,rfl⟩
 have hb0:Below w.heap.size w W0:=by rw[<-hW0];exact(((KR _ _).alloc (by first|exact KS _|(simp;done)|(simp;omega)) _).alloc (by first|exact KS _|(simp;done)|(simp;omega)) _)
 have bq0:Blk W0 w.heap.size 42 m.row:=by rw[<-hW0];exact((Blk.new _ _ _).alloc _)
 have HQ0:=KO bq0
 have bq1:Blk W0 (w.heap.size+1) 44 #[.int .u64 ver,.bool on,.int .i64 key]:=by rw[<-hW0];exact(aj (by simp))
 have HQ1:=KO bq1
 have HW0:=KO hW0
 have HB0:=KO hb0
 clear hW0 hb0 bq0 bq1
 have has:=iY m W0 (hs.below HB0.out) ho hcp hcb
 obtain⟨E,hE⟩:∃E,aV m=E:=⟨_,rfl⟩
 rw[hE]at has he ⊢
 rw[if_neg he]at has
 have HAS:=KO has
 clear has hE hs ho hcp hcb
 go_enter func29,ntmps29
 go_upto_region 1 with fail
 rw[HW0.out]
 try dsimp only[]
 repeat (first|refine eX HQ0.out 0 underlying42 af rfl rfl rfl rfl ?_|go_values|go_skip|go_guarded|go_step|go_upon)
 refine HAS.out.mono ?_
 rintro e w1 ⟨A,c,rfl,ho1,hb1⟩
 have HB1:=KO (aa HB0.out hb1)
 have HQ01:=KO (HQ0.out.below hb1 HQ0.out.lt)
 have HQ11:=KO (HQ1.out.below hb1 HQ1.out.lt)
 clear hb1 ho1
 go_wp2_with fail
 refine KV (v:= .tuple #[.pointer none,.int .i64 E]) (by simp[results,results29,go_sem]) rfl ?_
 exact⟨rfl,HB1.out⟩
theorem EY (m:Mv) (ver:Int) (on:Bool) (key:Int) (w:World) (hs:MvAt w m) (ho:MvOk m) (hcp:m.ps.cs.length<=m.ps.cc) (hcb:m.bs.cs.length<=m.bs.cc) (he:aV m=0) (hv:ver≠m.ver):
  Calls prog 29 #[.agg m.row,.agg #[.int .u64 ver,.bool on,.int .i64 key],.bool false] w (fun r w'=>r= .returned (.tuple #[.pointer none,.int .i64 300])/\Below w.heap.size w w'):=by
 obtain⟨W0,hW0⟩:∃W,((w.alloc (.cells m.row 42)).alloc (.cells #[.int .u64 ver,.bool on,.int .i64 key] 44))=W:=⟨_,rfl⟩
 have hb0:Below w.heap.size w W0:=by rw[<-hW0];exact(((KR _ _).alloc (by first|exact KS _|(simp;done)|(simp;omega)) _).alloc (by first|exact KS _|(simp;done)|(simp;omega)) _)
 have bq0:Blk W0 w.heap.size 42 m.row:=by rw[<-hW0];exact((Blk.new _ _ _).alloc _)
 have HQ0:=KO bq0
 have bq1:Blk W0 (w.heap.size+1) 44 #[.int .u64 ver,.bool on,.int .i64 key]:=by rw[<-hW0];exact(aj (by simp))
 have HQ1:=KO bq1
 have HW0:=KO hW0
 have HB0:=KO hb0
 clear hW0 hb0 bq0 bq1
 have has:=iY m W0 (hs.below HB0.out) ho hcp hcb
 rw[he,if_pos rfl]at has
 obtain⟨P,hP⟩:∃P,allM m=P:=⟨_,rfl⟩
 rw[hP]at has
 have HAS:=KO has
 have hq:(ver !=m.ver)=true:=by simp[hv]
 clear has he hP hs ho hcp hcb hv
 go_enter func29,ntmps29
 go_upto_region 1 with fail
 rw[HW0.out]
 try dsimp only[]
 repeat (first|refine eX HQ0.out 0 underlying42 af rfl rfl rfl rfl ?_|go_values|go_skip|go_guarded|go_step|go_upon)
 refine HAS.out.mono ?_
 rintro e w1 ⟨A,c,rfl,ho1,hb1⟩
 have HB1:=KO (aa HB0.out hb1)
 have HQ01:=KO (HQ0.out.below hb1 HQ0.out.lt)
 have HQ11:=KO (HQ1.out.below hb1 HQ1.out.lt)
 clear hb1 ho1
 have a0:=HQ11.out.cell
 have b1:w1.cell? ⟨w.heap.size,1,none⟩=some (.int .u64 m.ver):=HQ01.out.cell 1
 go_wp2_with fail
 refine KV (v:= .tuple #[.pointer none,.int .i64 300]) (by simp[results,results29,go_sem]) rfl ?_
 exact⟨rfl,HB1.out⟩
theorem JM (m:Mv) (ver:Int) (key:Int) (w:World) (hs:MvAt w m) (ho:MvOk m) (hcp:m.ps.cs.length<=m.ps.cc) (hcb:m.bs.cs.length<=m.bs.cc) (he:aV m=0) (hv:ver=m.ver):
  Calls prog 29 #[.agg m.row,.agg #[.int .u64 ver,.bool false,.int .i64 key],.bool false] w (fun r w'=>r= .returned (.tuple #[.pointer none,.int .i64 2])/\Below w.heap.size w w'):=by
 obtain⟨W0,hW0⟩:∃W,((w.alloc (.cells m.row 42)).alloc (.cells #[.int .u64 ver,.bool false,.int .i64 key] 44))=W:=⟨_,rfl⟩
 have hb0:Below w.heap.size w W0:=by rw[<-hW0];exact(((KR _ _).alloc (by first|exact KS _|(simp;done)|(simp;omega)) _).alloc (by first|exact KS _|(simp;done)|(simp;omega)) _)
 have bq0:Blk W0 w.heap.size 42 m.row:=by rw[<-hW0];exact((Blk.new _ _ _).alloc _)
 have HQ0:=KO bq0
 have bq1:Blk W0 (w.heap.size+1) 44 #[.int .u64 ver,.bool false,.int .i64 key]:=by rw[<-hW0];exact(aj (by simp))
 have HQ1:=KO bq1
 have HW0:=KO hW0
 have HB0:=KO hb0
 clear hW0 hb0 bq0 bq1
 have has:=iY m W0 (hs.below HB0.out) ho hcp hcb
 rw[he,if_pos rfl]at has
 obtain⟨P,hP⟩:∃P,allM m=P:=⟨_,rfl⟩
 rw[hP]at has
 have HAS:=KO has
 have hq:(ver !=m.ver)=false:=by simp[hv]
 clear has he hP hs ho hcp hcb hv
 go_enter func29,ntmps29
 go_upto_region 1 with fail
 rw[HW0.out]
 try dsimp only[]
 repeat (first|refine eX HQ0.out 0 underlying42 af rfl rfl rfl rfl ?_|go_values|go_skip|go_guarded|go_step|go_upon)
 refine HAS.out.mono ?_
 rintro e w1 ⟨A,c,rfl,ho1,hb1⟩
 have HB1:=KO (aa HB0.out hb1)
 have HQ01:=KO (HQ0.out.below hb1 HQ0.out.lt)
 have HQ11:=KO (HQ1.out.below hb1 HQ1.out.lt)
 clear hb1 ho1
 have a0:=HQ11.out.cell
 have b1:w1.cell? ⟨w.heap.size,1,none⟩=some (.int .u64 m.ver):=HQ01.out.cell 1
 go_wp2_with fail
 refine KV (v:= .tuple #[.pointer none,.int .i64 2]) (by simp[results,results29,go_sem]) rfl ?_
 exact⟨rfl,HB1.out⟩
theorem Jr (m:Mv) (cu:Cu) (w:World) (hs:MvAt w m) (ho:MvOk m) (hcp:m.ps.cs.length<=m.ps.cc) (hcb:m.bs.cs.length<=m.bs.cc) (hz:dA m cu≠0):
  Calls prog 29 #[.agg m.row,.agg cu.row,.bool false] w (fun r w'=>r= .returned (.tuple #[.pointer none,.int .i64 (dA m cu)])/\Below w.heap.size w w'):=by
 obtain⟨ver,on,key⟩:=cu
 unfold dA at hz ⊢
 by_cases he:aV m=0
 ·rw[if_pos he]at hz ⊢
  by_cases hv:ver=m.ver
  ·rw[if_pos hv]at hz ⊢
   cases on with
   |true=>exact absurd rfl hz
   |false=>exact JM m ver key w hs ho hcp hcb he hv
  ·rw[if_neg hv]
   exact EY m ver on key w hs ho hcp hcb he hv
 ·rw[if_neg he]
  exact JF m ver on key false w hs ho hcp hcb he
theorem GQ (m:Mv) (ver:Int) (key:Int) (w:World) (hs:MvAt w m) (ho:MvOk m) (hcp:m.ps.cs.length<=m.ps.cc) (hcb:m.bs.cs.length<=m.bs.cc) (he:aV m=0) (hv:ver=m.ver):
  Calls prog 29 #[.agg m.row,.agg #[.int .u64 ver,.bool true,.int .i64 key],.bool false] w (Iu ⟨ver,true,key⟩ (allM m) w):=by
 obtain⟨W0,hW0⟩:∃W,((w.alloc (.cells m.row 42)).alloc (.cells #[.int .u64 ver,.bool true,.int .i64 key] 44))=W:=⟨_,rfl⟩
 have hb0:Below w.heap.size w W0:=by rw[<-hW0];exact(((KR _ _).alloc (by first|exact KS _|(simp;done)|(simp;omega)) _).alloc (by first|exact KS _|(simp;done)|(simp;omega)) _)
 have bq0:Blk W0 w.heap.size 42 m.row:=by rw[<-hW0];exact((Blk.new _ _ _).alloc _)
 have HQ0:=KO bq0
 have bq1:Blk W0 (w.heap.size+1) 44 #[.int .u64 ver,.bool true,.int .i64 key]:=by rw[<-hW0];exact(aj (by simp))
 have HQ1:=KO bq1
 have HW0:=KO hW0
 have HB0:=KO hb0
 clear hW0 hb0 bq0 bq1
 have has:=iY m W0 (hs.below HB0.out) ho hcp hcb
 rw[he,if_pos rfl]at has
 obtain⟨P,hP⟩:∃P,allM m=P:=⟨_,rfl⟩
 rw[hP]at has ⊢
 have HAS:=KO has
 have hq:(ver !=m.ver)=false:=by simp[hv]
 clear has he hP hs ho hcp hcb hv
 go_enter func29,ntmps29
 go_upto_region 1 with fail
 rw[HW0.out]
 try dsimp only[]
 repeat (first|refine eX HQ0.out 0 underlying42 af rfl rfl rfl rfl ?_|go_values|go_skip|go_guarded|go_step|go_upon)
 refine HAS.out.mono ?_
 rintro e w1 ⟨A,c,rfl,ho1,hb1⟩
 have HB1:=KO (aa HB0.out hb1)
 have HQ01:=KO (HQ0.out.below hb1 HQ0.out.lt)
 have HQ11:=KO (HQ1.out.below hb1 HQ1.out.lt)
 have HO1:=KO ho1
 clear hb1 ho1
 have a0:=HQ11.out.cell
 have b1:w1.cell? ⟨w.heap.size,1,none⟩=some (.int .u64 m.ver):=HQ01.out.cell 1
 go_wp2_with fail
 have hpl:∀x:Addr,x.block≠w1.heap.size∨True:=fun _=> .inr trivial
 refine KV (v:= .tuple #[.pointer (some ⟨w1.heap.size,0,none⟩),.int .i64 0]) (by simp[results,results29,go_sem]) rfl ?_
 obtain⟨_,_,hvv,hlc,_⟩:=ak HO1.out
 cases hvv
 refine⟨w1.heap.size,A,c,rfl,HB1.out.size,Blk.new _ _ _,(aA HO1.out).below ((KR _ _).alloc (KS _) _),hlc,?_,HB1.out.alloc HB1.out.size _⟩
 intro a ha
 exact⟨KY HB0.out.size (kU HO1.out a ha),Nat.ne_of_lt (Jo HO1.out a ha)⟩
section
open Go.Shelf
theorem uq {F:Fence} {n:Nat} {P:Program} {op:Oper} {a:Act} {w:World} {K:Act->World->Prop} {Q:Exit->Act->World->Prop} (ty:TypeId) (x:Operand) (ho:op.op= .load ty x)
  (b o:Nat) (hx:a.eval x= .pointer (some ⟨b,o,none⟩)) (cs:List Value) (d:TypeDesc) (hc:w.rangeAt b o cs)
  (hu:P.underlying ty=some d) (hd:d.isRow=true) (hi:(P.info? ty).map (·.size)=some cs.length)
  (h:K (a.put op.dst (.agg cs.toArray)) w):op.wpIn F n P a w K Q:=by
 unfold Oper.wpIn
 refine⟨?_,?_⟩
 ·intro f hf;simp[Oper.about,ho]at hf
 ·rw[Oper.semAt_plain F _ _ (by rw[ho];intro c hc';cases hc')]
  unfold execOp
  simp only[ho,hx,Instr.loadAt,Instr.sureAddr,Sem.run_bind,Sem.run_pure,Result.andThen_ok,run_loadVar_mid w b o ty cs d hc hu hd hi]
  exact h
theorem aP {F:Fence} {n:Nat} {P:Program} {ops:Array Oper} {rest:List Oper} {op:Oper} {a:Act} {w:World} {Q:Exit->Act->World->Prop} (hgd:op.guard=none) (ty:TypeId) (x:Operand) (ho:op.op= .load ty x)
  (b o:Nat) (hx:a.eval x= .pointer (some ⟨b,o,none⟩)) (cs:List Value) (d:TypeDesc) (hc:w.rangeAt b o cs)
  (hu:P.underlying ty=some d) (hd:d.isRow=true) (hi:(P.info? ty).map (·.size)=some cs.length)
  (h:wpListIn F n P ops Q rest (a.put op.dst (.agg cs.toArray)) w):wpListIn F n P ops Q (op::rest) a w:=
 wpListIn_plain hgd fun _ hK=>uq ty x ho b o hx cs d hc hu hd hi (hK _ _ h)
theorem il {F:Fence} {P:Program} {fn:Func} {R:Ending->World->Prop} {tmps:Array Value} {w:World} {v:Value}
  (hr:(results fn tmps).run P w= .ok v w) (hR:R (.returned v) w):bodyPostM F 0 P fn R .ret {tmps:=tmps,defers:=[]} w:=⟨_,hr,hR⟩
theorem Df (gp:Nat) (w:World):Calls prog 31 #[.pointer (some ⟨gp,0,none⟩)] w fun r w'=>r= .returned (.func (.func 55) #[] #[.pointer (some ⟨w.heap.size,0,none⟩)])/\Blk w' w.heap.size 77 #[.pointer (some ⟨gp,0,none⟩)]/\Below w.heap.size w w':=by
 have hmf:∀(fn:Fn) (first cap:Array Value) (w:World),(Instr.makeFunc fn first cap).run prog w= .ok (.func fn first cap) w:=fun _ _ _ _=>rfl
 go_enter func31,ntmps31
 go_wp2_with fail
 go_ret
 exact⟨rfl,Blk.new _ _ _,(KR _ _).alloc (KS _) _⟩
theorem GA {gp pb:Nat} {v:Int} {A:Option Addr} {P:List Pr} {c K:Nat}:∀k B C,Kj gp v A P c K k B->B.heap.size<=C.heap.size->(∀b,Jg gp pb A P b->C.heap[b]?=B.heap[b]?)->Kj gp v A P c K k C:=fun _ _ _ h _ he=>dJ h (he _ (.inl rfl))
theorem EH {gp pb:Nat} {v:Int} {A:Option Addr} {P:List Pr} {c K:Nat}:∀B C,Ku gp v A P c K B->B.heap.size<=C.heap.size->(∀b,Jg gp pb A P b->C.heap[b]?=B.heap[b]?)->Ku gp v A P c K C:=fun _ _ h _ he hk=>dJ (h hk) (he _ (.inl rfl))
end
theorem sO {m:Mv} {cu:Cu} (h:dA m cu=0):aV m=0/\cu.ver=m.ver/\cu.on=true:=by
 unfold dA at h
 by_cases h1:aV m=0
 ·rw[if_pos h1]at h
  by_cases h2:cu.ver=m.ver
  ·rw[if_pos h2]at h
   by_cases h3:cu.on=true
   ·exact⟨h1,h2,h3⟩
   ·rw[if_neg h3]at h;omega
  ·rw[if_neg h2]at h;omega
 ·rw[if_neg h1]at h;exact absurd h h1
section
open Go.Shelf
attribute [local go_sem] Oper.semAt_some
def lH (l:List Pr) (C:Cu) (e:Int) (w:World) (r:Ending) (w':World):Prop:=∃A c,r= .returned (.tuple #[.slice A l.length c,.agg C.row,.int .i64 e])/\w'.ownsRow w.heap.size 55 2 (.slice A l.length c) l.length (l.flatMap Pr.cells)/\Below w.heap.size w w'
theorem dm {w:World} {g:Nat} {t:TypeId} {r:Array Value} (h:Blk w g t r):Blk w.drew g t r:=h
theorem DC (m:Mv) (cu:Cu) (most:Int) (w:World) (hs:MvAt w m) (ho:MvOk m) (hcp:m.ps.cs.length<=m.ps.cc) (hcb:m.bs.cs.length<=m.bs.cc) (hz:dA m cu≠0):
  Calls prog 7 #[.agg m.row,.agg cu.row,.int .i64 most] w (lH [] tQ (dA m cu) w):=by
 obtain⟨ver,on,key⟩:=cu
 obtain⟨W0,hW0⟩:∃W,(((((w.alloc (.cells m.row 42)).alloc (.cells #[.int .u64 ver,.bool on,.int .i64 key] 44)).alloc (.cells #[.int .i64 most] 3)).alloc (.cells #[.slice none 0 0] 47)).alloc (.cells #[.int .u64 0,.bool false,.int .i64 0] 44))=W:=⟨_,rfl⟩
 have hb0:Below w.heap.size w W0:=by rw[<-hW0];exact(((((KR _ _).alloc (KS _) _).alloc (by simp) _).alloc (by simp;omega) _).alloc (by simp;omega) _).alloc (by simp;omega) _
 have HQ0:=KO (show Blk W0 w.heap.size 42 m.row by rw[<-hW0];exact(((((Blk.new _ _ _).alloc _).alloc _).alloc _).alloc _))
 have HQ1:=KO (show Blk W0 (w.heap.size+1) 44 #[.int .u64 ver,.bool on,.int .i64 key]by rw[<-hW0];exact((((aj (by simp)).alloc _).alloc _).alloc _))
 have HQ2:=KO (show Blk W0 (w.heap.size+2) 3 #[.int .i64 most]by rw[<-hW0];exact(((aj (by simp)).alloc _).alloc _))
 have HQ3:=KO (show Blk W0 (w.heap.size+3) 47 #[.slice none 0 0]by rw[<-hW0];exact((aj (by simp)).alloc _))
 have HQ4:=KO (show Blk W0 (w.heap.size+4) 44 #[.int .u64 0,.bool false,.int .i64 0]by rw[<-hW0];exact(aj (by simp)))
 have HW0:=KO hW0
 have HB0:=KO hb0
 clear hW0 hb0
 have hin:=Jr m ⟨ver,on,key⟩ W0 (hs.below HB0.out) ho hcp hcb hz
 obtain⟨Z,hZ⟩:∃Z,dA m ⟨ver,on,key⟩=Z:=⟨_,rfl⟩
 rw[hZ]at hin hz ⊢
 clear hZ
 have HIN:=KO hin
 clear hin hs ho hcp hcb
 refine bD (_F:=Fence.wide) ?_
 have hdd:∀k:Nat,(Fence.wide.depth.isSome=true->1<=k):=fun k h=>by cases h
 have hwf:∀f,Fence.wide.fn f:=fun _=>trivial
 have hdp:Fence.wide.depth=none:=rfl
 have hro:Fence.wide.round=none:=rfl
 refine MV func7 rfl (hwf _) ?_ hro
 simp only[ntmps7,Ll,List.length_cons,List.length_nil,LD,LF,Array.replicate_succ,Array.replicate_zero,Mq,Me,LA,Mr]
 try dsimp only[]
 repeat (first|rw[HW0.out]|refine aP rfl 42 (.tmp 3) rfl w.heap.size 0 rfl _ _ (ae HQ0.out 0 46 rfl) underlying42 rfl af ?_|refine aP rfl 44 (.tmp 4) rfl (w.heap.size+1) 0 rfl _ _ (ae HQ1.out 0 3 rfl) underlying44 rfl gD ?_|go_values|gi_guarded|gi_step|gi_upon)
 gi_wp2_with ((try first|refine⟨hdp,?_⟩|refine⟨hdd _,?_⟩);gi_at_call 29;refine(callsIn_wide.2 HIN.out).mono ?_;rintro e w1 ⟨rfl,hb1⟩;have HB1:=KO (aa HB0.out hb1);have HQ31:=KO (HQ3.out.below hb1 HQ3.out.lt);have HQ41:=KO (HQ4.out.below hb1 HQ4.out.lt);clear hb1;have d0:=HQ31.out.cell 0;have d1:=HQ41.out.cell;have f0:=HQ31.out.frozen 0;have f1:=HQ41.out.frozen)
 have hR:=KO (((HQ31.out.set_ 0 (.slice none 0 0)).far (p:=⟨(w.heap.size+4),0,none⟩) (by simp) (.int .u64 0)).far (p:=⟨(w.heap.size+4),1,none⟩) (by simp) (.bool false) |>.far (p:=⟨(w.heap.size+4),2,none⟩) (by simp) (.int .i64 0))
 have hE:=KO ((HQ41.out.far (p:=⟨(w.heap.size+3),0,none⟩) (by simp) (.slice none 0 0)).set3 (.int .u64 0) (.bool false) (.int .i64 0))
 have e0:=hR.out.cell 0
 have e1:=hE.out.cell 0
 have e2:=hE.out.cell 1
 have e3:=hE.out.cell 2
 simp only[LG,Lb,La,Lg,LC]at e0 e1 e2 e3
 refine il (v:= .tuple #[.slice none 0 0,.agg #[.int .u64 0,.bool false,.int .i64 0],.int .i64 Z]) (by simp[results,results7,go_sem,e0,e1,e2,e3]) ?_
 exact⟨none,0,rfl,Li _ _ _ _,((((HB1.out.setCell (p:=⟨(w.heap.size+3),0,none⟩) (by simp) _).setCell (p:=⟨(w.heap.size+4),0,none⟩) (by simp) _).setCell (p:=⟨(w.heap.size+4),1,none⟩) (by simp) _).setCell (p:=⟨(w.heap.size+4),2,none⟩) (by simp) _)⟩
end
section
open Go.Shelf
attribute [local go_sem] Oper.semAt_some
theorem EA (m:Mv) (cu:Cu) (most:Int) (w:World) (hs:MvAt w m) (ho:MvOk m) (hcp:m.ps.cs.length<=m.ps.cc) (hcb:m.bs.cs.length<=m.bs.cc) (hz:dA m cu=0) (hm:¬(0<=most/\most<=1000)):
  Calls prog 7 #[.agg m.row,.agg cu.row,.int .i64 most] w (lH [] tQ 2 w):=by
 obtain⟨he,hv,hon⟩:=sO hz
 obtain⟨ver,on,key⟩:=cu
 dsimp only at hv hon ⊢
 subst hv
 subst hon
 obtain⟨W0,hW0⟩:∃W,(((((w.alloc (.cells m.row 42)).alloc (.cells #[.int .u64 m.ver,.bool true,.int .i64 key] 44)).alloc (.cells #[.int .i64 most] 3)).alloc (.cells #[.slice none 0 0] 47)).alloc (.cells #[.int .u64 0,.bool false,.int .i64 0] 44))=W:=⟨_,rfl⟩
 have hb0:Below w.heap.size w W0:=by rw[<-hW0];exact(((((KR _ _).alloc (KS _) _).alloc (by simp) _).alloc (by simp;omega) _).alloc (by simp;omega) _).alloc (by simp;omega) _
 have HQ0:=KO (show Blk W0 w.heap.size 42 m.row by rw[<-hW0];exact(((((Blk.new _ _ _).alloc _).alloc _).alloc _).alloc _))
 have HQ1:=KO (show Blk W0 (w.heap.size+1) 44 #[.int .u64 m.ver,.bool true,.int .i64 key]by rw[<-hW0];exact((((aj (by simp)).alloc _).alloc _).alloc _))
 have HQ2:=KO (show Blk W0 (w.heap.size+2) 3 #[.int .i64 most]by rw[<-hW0];exact(((aj (by simp)).alloc _).alloc _))
 have HQ3:=KO (show Blk W0 (w.heap.size+3) 47 #[.slice none 0 0]by rw[<-hW0];exact((aj (by simp)).alloc _))
 have HQ4:=KO (show Blk W0 (w.heap.size+4) 44 #[.int .u64 0,.bool false,.int .i64 0]by rw[<-hW0];exact(aj (by simp)))
 have HW0:=KO hW0
 have HB0:=KO hb0
 clear hW0 hb0
 have hin:=GQ m m.ver key W0 (hs.below HB0.out) ho hcp hcb he rfl
 have hln:=kL ho he
 have hri:=kD he
 obtain⟨P,hP⟩:∃P,allM m=P:=⟨_,rfl⟩
 rw[hP]at hin hln hri
 have HIN:=KO hin
 have HLN:=KO hln
 have HRI:=KO hri
 clear hin hln hri hs ho hcp hcb hP he hz
 have hm2:most< 0∨¬most< 0/\1000< most:=by omega
 clear hm
 refine bD (_F:=Fence.wide) ?_
 have hdd:∀k:Nat,(Fence.wide.depth.isSome=true->1<=k):=fun k h=>by cases h
 have hwf:∀f,Fence.wide.fn f:=fun _=>trivial
 have hdp:Fence.wide.depth=none:=rfl
 have hro:Fence.wide.round=none:=rfl
 refine MV func7 rfl (hwf _) ?_ hro
 simp only[ntmps7,Ll,List.length_cons,List.length_nil,LD,LF,Array.replicate_succ,Array.replicate_zero,Mq,Me,LA,Mr]
 try dsimp only[]
 repeat (first|rw[HW0.out]|refine aP rfl 42 (.tmp 3) rfl w.heap.size 0 rfl _ _ (ae HQ0.out 0 46 rfl) underlying42 rfl af ?_|refine aP rfl 44 (.tmp 4) rfl (w.heap.size+1) 0 rfl _ _ (ae HQ1.out 0 3 rfl) underlying44 rfl gD ?_|go_values|gi_guarded|gi_step|gi_upon)
 rcases hm2 with i0|⟨i0,i1⟩
 all_goals
  gi_wp2_with ((try first|refine⟨hdp,?_⟩|refine⟨hdd _,?_⟩);gi_at_call 29;refine(callsIn_wide.2 HIN.out).mono ?_;rintro e w1 ⟨gp,A,c,rfl,hgp,hpl,hsl,hlc,hne,hb1⟩;have HB1:=KO (aa HB0.out hb1);have HQ01:=KO (HQ0.out.below hb1 HQ0.out.lt);have HQ11:=KO (HQ1.out.below hb1 HQ1.out.lt);have HQ21:=KO (HQ2.out.below hb1 HQ2.out.lt);have HQ31:=KO (HQ3.out.below hb1 HQ3.out.lt);have HQ41:=KO (HQ4.out.below hb1 HQ4.out.lt);have HPL:=KO hpl;have HSL:=KO hsl;have HLC:=KO hlc;have HNE:=KO (KW hgp hne);clear hb1 hpl hsl hlc hne hgp;have d0:=HQ31.out.cell 0;have d1:=HQ41.out.cell;have f0:=HQ31.out.frozen 0;have f1:=HQ41.out.frozen;have m0:=HQ21.out.cell 0)
  have hR:=KO (((HQ31.out.set_ 0 (.slice none 0 0)).far (p:=⟨(w.heap.size+4),0,none⟩) (by simp) (.int .u64 0)).far (p:=⟨(w.heap.size+4),1,none⟩) (by simp) (.bool false) |>.far (p:=⟨(w.heap.size+4),2,none⟩) (by simp) (.int .i64 0))
  have hE:=KO ((HQ41.out.far (p:=⟨(w.heap.size+3),0,none⟩) (by simp) (.slice none 0 0)).set3 (.int .u64 0) (.bool false) (.int .i64 0))
  have e0:=hR.out.cell 0
  have e1:=hE.out.cell 0
  have e2:=hE.out.cell 1
  have e3:=hE.out.cell 2
  simp only[LG,Lb,La,Lg,LC]at e0 e1 e2 e3
  refine il (v:= .tuple #[.slice none 0 0,.agg #[.int .u64 0,.bool false,.int .i64 0],.int .i64 2]) (by simp[results,results7,go_sem,e0,e1,e2,e3]) ?_
  exact⟨none,0,rfl,Li _ _ _ _,((((HB1.out.setCell (p:=⟨(w.heap.size+3),0,none⟩) (by simp) _).setCell (p:=⟨(w.heap.size+4),0,none⟩) (by simp) _).setCell (p:=⟨(w.heap.size+4),1,none⟩) (by simp) _).setCell (p:=⟨(w.heap.size+4),2,none⟩) (by simp) _)⟩
theorem zH (m:Mv) (cu:Cu) (most:Int) (w:World) (hs:MvAt w m) (ho:MvOk m) (hcp:m.ps.cs.length<=m.ps.cc) (hcb:m.bs.cs.length<=m.bs.cc) (hz:dA m cu=0) (hm:most=0):
  Calls prog 7 #[.agg m.row,.agg cu.row,.int .i64 most] w (lH [] cu 0 w):=by
 subst hm
 obtain⟨he,hv,hon⟩:=sO hz
 obtain⟨ver,on,key⟩:=cu
 dsimp only at hv hon ⊢
 subst hv
 subst hon
 obtain⟨W0,hW0⟩:∃W,(((((w.alloc (.cells m.row 42)).alloc (.cells #[.int .u64 m.ver,.bool true,.int .i64 key] 44)).alloc (.cells #[.int .i64 0] 3)).alloc (.cells #[.slice none 0 0] 47)).alloc (.cells #[.int .u64 0,.bool false,.int .i64 0] 44))=W:=⟨_,rfl⟩
 have hb0:Below w.heap.size w W0:=by rw[<-hW0];exact(((((KR _ _).alloc (KS _) _).alloc (by simp) _).alloc (by simp;omega) _).alloc (by simp;omega) _).alloc (by simp;omega) _
 have HQ0:=KO (show Blk W0 w.heap.size 42 m.row by rw[<-hW0];exact(((((Blk.new _ _ _).alloc _).alloc _).alloc _).alloc _))
 have HQ1:=KO (show Blk W0 (w.heap.size+1) 44 #[.int .u64 m.ver,.bool true,.int .i64 key]by rw[<-hW0];exact((((aj (by simp)).alloc _).alloc _).alloc _))
 have HQ2:=KO (show Blk W0 (w.heap.size+2) 3 #[.int .i64 0]by rw[<-hW0];exact(((aj (by simp)).alloc _).alloc _))
 have HQ3:=KO (show Blk W0 (w.heap.size+3) 47 #[.slice none 0 0]by rw[<-hW0];exact((aj (by simp)).alloc _))
 have HQ4:=KO (show Blk W0 (w.heap.size+4) 44 #[.int .u64 0,.bool false,.int .i64 0]by rw[<-hW0];exact(aj (by simp)))
 have HW0:=KO hW0
 have HB0:=KO hb0
 clear hW0 hb0
 have hin:=GQ m m.ver key W0 (hs.below HB0.out) ho hcp hcb he rfl
 have hln:=kL ho he
 have hri:=kD he
 obtain⟨P,hP⟩:∃P,allM m=P:=⟨_,rfl⟩
 rw[hP]at hin hln hri
 have HIN:=KO hin
 have HLN:=KO hln
 have HRI:=KO hri
 clear hin hln hri hs ho hcp hcb hP he hz
 refine bD (_F:=Fence.wide) ?_
 have hdd:∀k:Nat,(Fence.wide.depth.isSome=true->1<=k):=fun k h=>by cases h
 have hwf:∀f,Fence.wide.fn f:=fun _=>trivial
 have hdp:Fence.wide.depth=none:=rfl
 have hro:Fence.wide.round=none:=rfl
 refine MV func7 rfl (hwf _) ?_ hro
 simp only[ntmps7,Ll,List.length_cons,List.length_nil,LD,LF,Array.replicate_succ,Array.replicate_zero,Mq,Me,LA,Mr]
 try dsimp only[]
 repeat (first|rw[HW0.out]|refine aP rfl 42 (.tmp 3) rfl w.heap.size 0 rfl _ _ (ae HQ0.out 0 46 rfl) underlying42 rfl af ?_|refine aP rfl 44 (.tmp 4) rfl (w.heap.size+1) 0 rfl _ _ (ae HQ1.out 0 3 rfl) underlying44 rfl gD ?_|go_values|gi_guarded|gi_step|gi_upon)
 gi_wp2_with ((try first|refine⟨hdp,?_⟩|refine⟨hdd _,?_⟩);gi_at_call 29;refine(callsIn_wide.2 HIN.out).mono ?_;rintro e w1 ⟨gp,A,c,rfl,hgp,hpl,hsl,hlc,hne,hb1⟩;have HB1:=KO (aa HB0.out hb1);have HQ01:=KO (HQ0.out.below hb1 HQ0.out.lt);have HQ11:=KO (HQ1.out.below hb1 HQ1.out.lt);have HQ21:=KO (HQ2.out.below hb1 HQ2.out.lt);have HQ31:=KO (HQ3.out.below hb1 HQ3.out.lt);have HQ41:=KO (HQ4.out.below hb1 HQ4.out.lt);have HPL:=KO hpl;have HSL:=KO hsl;have HLC:=KO hlc;have HNE:=KO (KW hgp hne);clear hb1 hpl hsl hlc hne hgp;have d0:=HQ31.out.cell 0;have d1:=HQ41.out.cell;have f0:=HQ31.out.frozen 0;have f1:=HQ41.out.frozen;have m0:=HQ21.out.cell 0;have a0:=HQ11.out.cell)
 gi_region
 gi_wp2
 have hR:=KO (((HQ31.out.set_ 0 (.slice none 0 0)).far (p:=⟨(w.heap.size+4),0,none⟩) (by simp) (.int .u64 m.ver)).far (p:=⟨(w.heap.size+4),1,none⟩) (by simp) (.bool true) |>.far (p:=⟨(w.heap.size+4),2,none⟩) (by simp) (.int .i64 key))
 have hE:=KO ((HQ41.out.far (p:=⟨(w.heap.size+3),0,none⟩) (by simp) (.slice none 0 0)).set3 (.int .u64 m.ver) (.bool true) (.int .i64 key))
 have e0:=(dm hR.out).cell 0
 have e1:=(dm hE.out).cell 0
 have e2:=(dm hE.out).cell 1
 have e3:=(dm hE.out).cell 2
 simp only[LG,Lb,La,Lg,LC]at e0 e1 e2 e3
 refine il (v:= .tuple #[.slice none 0 0,.agg #[.int .u64 m.ver,.bool true,.int .i64 key],.int .i64 0]) (by simp[results,results7,go_sem,e0,e1,e2,e3]) ?_
 exact⟨none,0,rfl,Li _ _ _ _,((((HB1.out.setCell (p:=⟨(w.heap.size+3),0,none⟩) (by simp) _).setCell (p:=⟨(w.heap.size+4),0,none⟩) (by simp) _).setCell (p:=⟨(w.heap.size+4),1,none⟩) (by simp) _).setCell (p:=⟨(w.heap.size+4),2,none⟩) (by simp) _).drew⟩
end
section
open Go.Shelf
attribute [local go_sem] Oper.semAt_some
theorem fK {P:Prop} (h:P:=by
  iterate 11 apply Exists.intro
  refine⟨rfl,?_,?_,?_,?_,?_,?_,?_,?_,?_,?_,?_,?_,?_,?_,?_,?_,?_,?_,?_,?_,?_⟩
  ·first|exact HW.out|exact fun _=>rfl|(intro h;refine absurd h ?_;simp;done;done)
  ·first|exact HY.out|exact fun _=>hb2|exact(fun h=>absurd (show L 3=true by simpa using h) (by rw[hlast];exact KP))
  ·first|exact F0.out|exact fun _=>rfl
  ·first|exact F1.out|exact fun _=>rfl
  ·first|exact F2.out|exact fun _=>rfl
  ·first|exact F3.out|exact fun _=>rfl
  ·first|exact F4.out|exact fun _=>rfl
  ·first|exact F5.out|exact fun _=>rfl
  ·first|exact F6.out|exact fun _=>rfl
  ·first|exact F7.out|exact fun _=>rfl
  ·first|exact F8.out|exact fun _=>rfl
  ·first|exact F9.out|exact fun _=>rfl
  ·first|exact F10.out|exact fun _=>rfl
  ·first|(intro h;have hh:=C2.out (by simpa using h);simp[hh];done)|(intro _;simp[hl1];done)
  ·first|(intro h;have hh:=C3.out (by simpa using h);simp[hh];done)|(intro _;simp[hl0,hl2];done)
  ·first|(intro h;have hh:=C5.out (by simpa using h);simp[hh];done)|(intro _;simp[hl4];done)
  ·first|(intro h;have hh:=C6.out (by simpa using h);simp[hh];done)|(intro _;simp[hl5];done)
  ·first|(intro h;have hh:=C7.out (by simpa using h);simp[hh];done)|(intro _;simp[hl6];done)
  ·first|(intro h;have hh:=C8.out (by simpa using h);simp[hh];done)|(intro _;simp[hl7];done)
  ·first|(intro h;have hh:=C9.out (by simpa using h);simp[hh];done)|(intro _;simp[hl3,hl8];done)
  ·first|(intro h;have hh:=C10.out (by simpa using h);simp[hh];done)|(intro _;simp[hl9,hl3];done)):P:=h
theorem Fx (m:Mv) (cu:Cu) (n K:Nat) (P Lr:List Pr) (C:Cu) (w:World) (hs:MvAt w m) (ho:MvOk m) (hcp:m.ps.cs.length<=m.ps.cc) (hcb:m.bs.cs.length<=m.bs.cc) (hz:dA m cu=0) (hP:allM m=P) (hK:bel P cu.key=K) (hn:0< n/\n<=1000)
  (hnil:K=P.length->Lr=[]/\C=⟨m.ver,false,0⟩) (hbrk:∀k,k< P.length-K->k+1=n->Lr=(P.drop K).take n/\C=kw m.ver P (K+k+1)) (hdone:P.length-K< n->Lr=P.drop K/\C=⟨m.ver,false,0⟩):
  Calls prog 7 #[.agg m.row,.agg cu.row,.int .i64 (n:Nat)] w (lH Lr C 0 w):=by
 obtain⟨he,hv,hon⟩:=sO hz
 obtain⟨ver,on,key⟩:=cu
 dsimp only at hv hon hK ⊢
 subst hv
 subst hon
 obtain⟨W0,hW0⟩:∃W,(((((w.alloc (.cells m.row 42)).alloc (.cells #[.int .u64 m.ver,.bool true,.int .i64 key] 44)).alloc (.cells #[.int .i64 (n:Nat)] 3)).alloc (.cells #[.slice none 0 0] 47)).alloc (.cells #[.int .u64 0,.bool false,.int .i64 0] 44))=W:=⟨_,rfl⟩
 have hb0:Below w.heap.size w W0:=by rw[<-hW0];exact(((((KR _ _).alloc (KS _) _).alloc (by simp) _).alloc (by simp;omega) _).alloc (by simp;omega) _).alloc (by simp;omega) _
 have HQ0:=KO (show Blk W0 w.heap.size 42 m.row by rw[<-hW0];exact(((((Blk.new _ _ _).alloc _).alloc _).alloc _).alloc _))
 have HQ1:=KO (show Blk W0 (w.heap.size+1) 44 #[.int .u64 m.ver,.bool true,.int .i64 key]by rw[<-hW0];exact((((aj (by simp)).alloc _).alloc _).alloc _))
 have HQ2:=KO (show Blk W0 (w.heap.size+2) 3 #[.int .i64 (n:Nat)]by rw[<-hW0];exact(((aj (by simp)).alloc _).alloc _))
 have HQ3:=KO (show Blk W0 (w.heap.size+3) 47 #[.slice none 0 0]by rw[<-hW0];exact((aj (by simp)).alloc _))
 have HQ4:=KO (show Blk W0 (w.heap.size+4) 44 #[.int .u64 0,.bool false,.int .i64 0]by rw[<-hW0];exact(aj (by simp)))
 have HW0:=KO hW0
 have HB0:=KO hb0
 clear hW0 hb0
 have hin:=GQ m m.ver key W0 (hs.below HB0.out) ho hcp hcb he rfl
 have hln:=kL ho he
 have hri:=kD he
 rw[hP]at hin hln hri
 have HIN:=KO hin
 have HLN:=KO hln
 have HRI:=KO hri
 have hKl:K<=P.length:=by rw[<-hK];exact kP P key
 clear hin hln hri hs ho hcp hcb hP he hz
 have HKE:=KO hK
 have HKL:=KO hKl
 have HNN:=KO hn
 have HNI:=KO hnil
 have HBR:=KO hbrk
 have HDN:=KO hdone
 have i0:decide ((n:Int)< 0)=false:=by rw[decide_eq_false_iff_not];omega
 have i1:decide (1000< (n:Int))=false:=by rw[decide_eq_false_iff_not];omega
 have i2:((n:Int)==0)=false:=by rw[beq_eq_false_iff_ne];omega
 clear hK hKl hn hnil hbrk hdone
 refine bD (_F:=Fence.wide) ?_
 have hdd:∀k:Nat,(Fence.wide.depth.isSome=true->1<=k):=fun k h=>by cases h
 have hwf:∀f,Fence.wide.fn f:=fun _=>trivial
 have hdp:Fence.wide.depth=none:=rfl
 have hro:Fence.wide.round=none:=rfl
 refine MV func7 rfl (hwf _) ?_ hro
 simp only[ntmps7,Ll,List.length_cons,List.length_nil,LD,LF,Array.replicate_succ,Array.replicate_zero,Mq,Me,LA,Mr]
 try dsimp only[]
 repeat (first|rw[HW0.out]|refine aP rfl 42 (.tmp 3) rfl w.heap.size 0 rfl _ _ (ae HQ0.out 0 46 rfl) underlying42 rfl af ?_|refine aP rfl 44 (.tmp 4) rfl (w.heap.size+1) 0 rfl _ _ (ae HQ1.out 0 3 rfl) underlying44 rfl gD ?_|go_values|gi_guarded|gi_step|gi_upon)
 gi_wp2_with ((try first|refine⟨hdp,?_⟩|refine⟨hdd _,?_⟩);gi_at_call 29;refine(callsIn_wide.2 HIN.out).mono ?_;rintro e w1 ⟨gp,A,c,rfl,hgp,hpl,hsl,hlc,hne,hb1⟩;have HB1:=KO (aa HB0.out hb1);have HQ01:=KO (HQ0.out.below hb1 HQ0.out.lt);have HQ11:=KO (HQ1.out.below hb1 HQ1.out.lt);have HQ21:=KO (HQ2.out.below hb1 HQ2.out.lt);have HQ31:=KO (HQ3.out.below hb1 HQ3.out.lt);have HQ41:=KO (HQ4.out.below hb1 HQ4.out.lt);have HPL:=KO hpl;have HSL:=KO hsl;have HLC:=KO hlc;have HNE:=KO (KW hgp hne);clear hb1 hpl hsl hlc hne hgp;have d0:=HQ31.out.cell 0;have d1:=HQ41.out.cell;have f0:=HQ31.out.frozen 0;have f1:=HQ41.out.frozen;have m0:=HQ21.out.cell 0;have a0:=HQ11.out.cell)
 clear d0 d1 f0 f1 m0 a0 i0 i1 i2
 have hgs:=HB1.out.size
 obtain⟨g,hg⟩:∃g,w.heap.size=g:=⟨_,rfl⟩
 rw[hg]at HB1 HQ01 HQ11 HQ21 HQ31 HQ41 hgs ⊢
 have HGS:=KO hgs
 have HG:=KO hg
 clear hgs hg
 have hrk:=rq gp m.ver true key A P c key w1.drew (dm HPL.out) (HSL.out.below (KR _ _).drew) HLC.out HLN.out HRI.out
 rw[HKE.out]at hrk
 have HRK:=KO hrk
 clear hrk
 obtain⟨D,hD⟩:∃D,((K:Int)==(P.length:Int))=D:=⟨_,rfl⟩
 have HD:=KO hD
 clear hD
 refine dY (by kernel_rfl) (by kernel_rfl) (fun L a W=>∃(t35 t36 t37 t38 t39 t40 t41 t42 t43 t44 t34:Value),a=⟨(Value.agg m.row:: .agg (⟨m.ver,true,key⟩:Cu).row::LB IntKind.i64 ((n:Nat):Int)::Value.pointer (some {block:=g,off:=0})::Value.pointer (some {block:=g+1,off:=0})::Value.pointer (some {block:=g+1+1,off:=0})::Value.pointer (some {block:=g+1+1+1,off:=0})::Value.pointer (some {block:=g+1+1+1+1,off:=0})::LB IntKind.i64 0::Value.pointer (some {block:=gp,off:=0})::undef::Value.tuple #[.pointer (some {block:=gp,off:=0}),.int .i64 0]:: .agg m.row::Value.agg #[.int .u64 m.ver,.bool true,.int .i64 key]::Value.tuple #[.pointer (some {block:=gp,off:=0}),.int .i64 0]::Value.pointer (some {block:=gp,off:=0})::LB IntKind.i64 0::Value.bool false::LB IntKind.i64 0::Value.bool false::undef::undef::Value.bool false::LB IntKind.i64 ((n:Nat):Int)::Value.bool false::Value.bool false::LB IntKind.i64 ((n:Nat):Int)::Value.bool false::Value.bool false::undef::Value.bool false::LB IntKind.i64 ((n:Nat):Int)::Value.bool false::undef::t34::t35::t36::t37::t38::t39::t40::t41::t42::t43::t44::undef::undef::undef::undef::undef::undef::undef::undef::undef::undef::undef::undef::undef::undef::undef::undef::undef::undef::undef::[]).toArray,[]⟩/\(L 3=false->W=w1.drew)/\(L 3=true->Below w1.heap.size w1.drew W)/\(L 0=true->t35= .pointer (some ⟨gp,0,none⟩))/\(L 1=true->t36= .pointer (some ⟨g+1,2,none⟩))/\(L 2=true->t37= .int .i64 key)/\(L 3=true->t38= .int .i64 (K:Nat))/\(L 4=true->t39= .pointer (some ⟨gp,0,none⟩))/\(L 5=true->t40= .pointer (some ⟨gp,0,none⟩))/\(L 6=true->t41= .pointer (some ⟨gp,3,none⟩))/\(L 7=true->t42= .slice A P.length c)/\(L 8=true->t43= .int .i64 (P.length:Nat))/\(L 9=true->t44= .bool D)/\(L 10=true->t34= .bool D)/\(L 2=true->L 1=true)/\(L 3=true->L 0=true/\L 2=true)/\(L 5=true->L 4=true)/\(L 6=true->L 5=true)/\(L 7=true->L 6=true)/\(L 8=true->L 7=true)/\(L 9=true->L 3=true/\L 8=true)/\(L 10=true->L 9=true/\L 3=true)) ?h0 ?hstep ?hend
 case h0=>exact⟨undef,undef,undef,undef,undef,undef,undef,undef,undef,undef,undef,rfl,fun _=>rfl,fun h=>absurd h KP,fun h=>absurd h KP,fun h=>absurd h KP,fun h=>absurd h KP,fun h=>absurd h KP,fun h=>absurd h KP,fun h=>absurd h KP,fun h=>absurd h KP,fun h=>absurd h KP,fun h=>absurd h KP,fun h=>absurd h KP,fun h=>absurd h KP,fun h=>absurd h KP,fun h=>absurd h KP,fun h=>absurd h KP,fun h=>absurd h KP,fun h=>absurd h KP,fun h=>absurd h KP,fun h=>absurd h KP,fun h=>absurd h KP⟩
 case hend=>
  rintro L a W hall ⟨t35,t36,t37,t38,t39,t40,t41,t42,t43,t44,t34,rfl,hw,hy,f0,f1,f2,f3,f4,f5,f6,f7,f8,f9,f10,c2,c3,c5,c6,c7,c8,c9,c10⟩
  have z0:=f0 (hall 0 (by decide))
  have z1:=f1 (hall 1 (by decide))
  have z2:=f2 (hall 2 (by decide))
  have z3:=f3 (hall 3 (by decide))
  have z4:=f4 (hall 4 (by decide))
  have z5:=f5 (hall 5 (by decide))
  have z6:=f6 (hall 6 (by decide))
  have z7:=f7 (hall 7 (by decide))
  have z8:=f8 (hall 8 (by decide))
  have z9:=f9 (hall 9 (by decide))
  have z10:=f10 (hall 10 (by decide))
  have zy:=hy (hall 3 (by decide))
  clear hall hw hy f0 f1 f2 f3 f4 f5 f6 f7 f8 f9 f10 c2 c3 c5 c6 c7 c8 c9 c10
  obtain rfl:=z0
  obtain rfl:=z1
  obtain rfl:=z2
  obtain rfl:=z3
  obtain rfl:=z4
  obtain rfl:=z5
  obtain rfl:=z6
  obtain rfl:=z7
  obtain rfl:=z8
  obtain rfl:=z9
  obtain rfl:=z10
  have hbz:=((KR w1.heap.size w1).drew).trans zy
  have HB2:=KO (HB1.out.trans (hbz.mono HGS.out))
  have HQ02:=KO (HQ01.out.below hbz HQ01.out.lt)
  have HQ12:=KO (HQ11.out.below hbz HQ11.out.lt)
  have HQ22:=KO (HQ21.out.below hbz HQ21.out.lt)
  have HQ32:=KO (HQ31.out.below hbz HQ31.out.lt)
  have HQ42:=KO (HQ41.out.below hbz HQ41.out.lt)
  have HPM:=KO (HPL.out.below hbz HPL.out.lt)
  have HSM:=KO (HSL.out.below hbz)
  have HGT:=KO (KY HGS.out hbz.size)
  clear hbz zy
  cases D with
  |true=>
   obtain⟨rfl,rfl⟩:=HNI.out (by have:=HD.out;simp at this;omega)
   have v1:=HQ02.out.cell 1
   have d0:=HQ32.out.cell 0
   have d1:=HQ42.out.cell
   have f0:=HQ32.out.frozen 0
   have f1:=HQ42.out.frozen
   gi_wp2
   gi_region
   gi_wp2
   have hR:=KO (((HQ32.out.set_ 0 (.slice none 0 0)).far (p:=⟨(g+4),0,none⟩) (by simp) (.int .u64 m.ver)).far (p:=⟨(g+4),1,none⟩) (by simp) (.bool false) |>.far (p:=⟨(g+4),2,none⟩) (by simp) (.int .i64 0))
   have hE:=KO ((HQ42.out.far (p:=⟨(g+3),0,none⟩) (by simp) (.slice none 0 0)).set3 (.int .u64 m.ver) (.bool false) (.int .i64 0))
   have e0:=(dm hR.out).cell 0
   have e1:=(dm hE.out).cell 0
   have e2:=(dm hE.out).cell 1
   have e3:=(dm hE.out).cell 2
   simp only[LG,Lb,La,Lg,LC]at e0 e1 e2 e3
   refine il (v:= .tuple #[.slice none 0 0,.agg #[.int .u64 m.ver,.bool false,.int .i64 0],.int .i64 0]) (by simp[results,results7,go_sem,e0,e1,e2,e3]) ?_
   refine⟨none,0,rfl,Li _ _ _ _,?_⟩
   rw[HG.out]
   exact((((HB2.out.setCell (p:=⟨(g+3),0,none⟩) (by simp) _).setCell (p:=⟨(g+4),0,none⟩) (by simp) _).setCell (p:=⟨(g+4),1,none⟩) (by simp) _).setCell (p:=⟨(g+4),2,none⟩) (by simp) _).drew
  |false=>
   have hKP:K< P.length:=by
    have h1:=HD.out
    have h2:=HKL.out
    simp at h1
    omega
   have HKP:=KO hKP
   clear hKP
   gi_wp2_with ((try first|refine⟨hdp,?_⟩|refine⟨hdd _,?_⟩);gi_at_call 31;refine(callsIn_wide.2 (Df gp W)).mono ?_;rintro e w2 ⟨rfl,hbx,hb2⟩;have HB3:=KO (HB2.out.trans (hb2.mono HGT.out));have HQ23:=KO (HQ22.out.below hb2 HQ22.out.lt);have HQ33:=KO (HQ32.out.below hb2 HQ32.out.lt);have HQ43:=KO (HQ42.out.below hb2 HQ42.out.lt);have HBX:=KO hbx;have HPN:=KO (HPM.out.below hb2 HPM.out.lt);have HSN:=KO (HSM.out.below hb2);have HGU:=KO (KY HGT.out hb2.size);clear hb2 hbx)
   obtain⟨pb,hpb⟩:∃pb,W.heap.size=pb:=⟨_,rfl⟩
   have hpg:pb≠gp:=by rw[<-hpb];exact Nat.ne_of_gt HPM.out.lt
   have hpq:g+5<=pb:=by rw[<-hpb];have:=HQ42.out.lt;omega
   rw[hpb]at HBX ⊢
   have HFR:=KO (show FrAt w2 gp pb m.ver A P c (.bool true) (.int .i64 key)from⟨HBX.out,HPN.out,HSN.out⟩)
   have HGP:=KO (show g+5<=gp/\g+5<=pb/\pb≠gp/\pb< w2.heap.size/\gp< w2.heap.size from⟨by have:=HNE.out.1;have:=HQ4.out.lt;have:=HG.out;omega,hpq,hpg,HBX.out.lt,HPN.out.lt⟩)
   clear hpb hpg hpq
   obtain⟨ti0,hti⟩:=info_parts sK
   have HI:=KO hti
   clear hti
   have hpbw:=HGP.out
   refine xS hdp hwf hro rfl (enters_of func55 (by kernel_rfl) rfl) (Ei gp pb m.ver true key A P c K w2 HFR.out HLC.out HLN.out HRI.out (fun a ha=>(HNE.out.2 a ha).2) HGP.out.2.2.1 HKE.out) GA EH
    ?hK (fun b hb=>by rw[hb];exact HPN.out.lt) (fun _=>rfl)
    (fun k W=>∃(A':Option Addr) (c':Nat),k< n/\Hid (Blk W (g+3) 47 #[.slice A' k c']/\W.ownsRow (w2.heap.size+2) 55 2 (.slice A' k c') (k) (((P.drop K).take k).flatMap Pr.cells)/\Blk W (g+2) 3 #[.int .i64 (n:Nat)]/\Blk W (g+4) 44 #[.int .u64 0,.bool false,.int .i64 0]/\Below g w W))
    (fun cc W=>∃(A':Option Addr) (c':Nat),cc= .exit 1/\Hid (Blk W (g+3) 47 #[.slice A' Lr.length c']/\W.ownsRow (w2.heap.size+2) 55 2 (.slice A' Lr.length c') (Lr.length) ((Lr).flatMap Pr.cells)/\Blk W (g+4) 44 #[.int .u64 0,.bool false,.int .i64 0]/\Blk W gp 82 (jH C.ver C.on C.key A P c)/\Below g w W))
    ?stab ?stabx ?start (fun k a' W=>∃gy,a'=⟨(Value.agg m.row:: .agg (⟨m.ver,true,key⟩:Cu).row::LB IntKind.i64 ((n:Nat):Int)::Value.pointer (some {block:=g,off:=0})::Value.pointer (some {block:=g+1,off:=0})::Value.pointer (some {block:=g+1+1,off:=0})::Value.pointer (some {block:=g+1+1+1,off:=0})::Value.pointer (some {block:=g+1+1+1+1,off:=0})::LB IntKind.i64 0::Value.pointer (some {block:=gp,off:=0}):: .pointer (some ⟨gy,0,none⟩)::Value.tuple #[.pointer (some {block:=gp,off:=0}),.int .i64 0]:: .agg m.row::Value.agg #[.int .u64 m.ver,.bool true,.int .i64 key]::Value.tuple #[.pointer (some {block:=gp,off:=0}),.int .i64 0]::Value.pointer (some {block:=gp,off:=0})::LB IntKind.i64 0::Value.bool false::LB IntKind.i64 0::Value.bool false::undef::undef::Value.bool false::LB IntKind.i64 ((n:Nat):Int)::Value.bool false::Value.bool false::LB IntKind.i64 ((n:Nat):Int)::Value.bool false::Value.bool false::undef::Value.bool false::LB IntKind.i64 ((n:Nat):Int)::Value.bool false::undef::Value.bool false::Value.pointer (some {block:=gp,off:=0})::Value.pointer (some {block:=g+1,off:=2})::LB IntKind.i64 key::LB IntKind.i64 ((K:Nat):Int)::Value.pointer (some {block:=gp,off:=0})::Value.pointer (some {block:=gp,off:=0})::Value.pointer (some {block:=gp,off:=3})::Value.slice A P.length c::LB IntKind.i64 ((P.length:Nat):Int)::Value.bool false::undef::undef::undef::Value.pointer (some {block:=gp,off:=0})::Value.func (Fn.func 55) #[] #[.pointer (some {block:=pb,off:=0})]:: .agg #[.int .i64 (yT P (K+k)).key,.int .i64 (yT P (K+k)).val]::undef::undef::undef::undef::undef::undef::undef::undef::undef::undef::undef::undef::undef::[]).toArray,[]⟩/\Hid (Blk W gy 55 #[.int .i64 (yT P (K+k)).key,.int .i64 (yT P (K+k)).val]/\w2.heap.size+2<=gy)) ?hAx ?assign ?body ?done ?stop
   case hK=>
    rintro b (rfl|rfl|⟨a,hP,ha,rfl⟩)
    ·omega
    ·omega
    ·rcases HSN.out with h|⟨b,off,hA,hlt,_⟩
     ·exact absurd (by cases P with|nil=>rfl|cons x r=>simp[Pr.cells]at h) hP
     ·rw[ha]at hA;cases hA;exact hlt
   case start=>exact⟨none,0,HNN.out.1,HQ33.out,Li _ _ _ _,HQ23.out,HQ43.out,HB3.out⟩
   case stab=>
    rintro k A1 B ⟨A',c',hkn,h⟩ hm
    obtain⟨h1,h2,h3,h4,h5⟩:=h.out
    have hnn:∀x,x< g+5->¬(x=gp∨x=w2.heap.size∨x=w2.heap.size+1):=fun x hx hh=>by omega
    exact⟨A',c',hkn,h1.mod hm (hnn _ (by omega)),di h2 hm (by intro k hk;simp;omega),h3.mod hm (hnn _ (by omega)),h4.mod hm (hnn _ (by omega)),h5.trans (hm.below (HG.out ▸ h5.size) (by rintro x (h|h|h) <;> omega))⟩
   case stabx=>
    rintro cc A1 B ⟨A',c',hc,h⟩ hm
    obtain⟨h1,h2,h3,h4,h5⟩:=h.out
    have hnn:∀x,x< w2.heap.size->¬(x=w2.heap.size∨x=w2.heap.size+1):=fun x hx hh=>by omega
    exact⟨A',c',hc,h1.mod hm (hnn _ (by omega)),di h2 hm (by intro k hk;simp;omega),h3.mod hm (hnn _ (by omega)),h4.mod hm (hnn _ (by omega)),h5.trans (hm.below (HG.out ▸ h5.size) (by rintro x (h|h) <;> omega))⟩
   case hAx=>
    rintro k a' A1 B ⟨gy,rfl,h⟩ hm
    obtain⟨h1,h2⟩:=h.out
    exact⟨gy,rfl,h1.mod hm (by rintro(h|h|h) <;> omega),h2⟩
   case assign=>
    intro y k hk A1 CC hi hsz hC
    unfold frX
    have HJ:=KO hi
    clear hi
    gi_wp2
    obtain⟨A',c',hkn,h⟩:=HJ.out
    obtain⟨h1,h2,h3,h4,h5⟩:=h.out
    refine hC _ _ ((Mod.refl _ _).alloc _) ?_ ⟨A1.heap.size,rfl,Blk.new _ _ _,hsz⟩
    exact⟨A',c',hkn,h1.alloc _,h2.alloc _,h3.alloc _,h4.alloc _,h5.alloc (HG.out ▸ h5.size) _⟩
   case body=>
    rintro y k hk a' A1 ⟨A',c',hkn,hi⟩ hS ⟨gy,rfl,hy⟩ hsz
    obtain⟨h1,h2,h3,h4,h5⟩:=hi.out
    obtain⟨hyb,hgy⟩:=hy.out
    have hKk:K+k< P.length:=by omega
    have hkd:k< (P.drop K).length:=by rw[List.length_drop];omega
    obtain⟨e,he⟩:∃e,yT P (K+k)=e:=⟨_,rfl⟩
    have hgt:(P.drop K)[k]'hkd=e:=by rw[<-he,List.getElem_drop];unfold yT;rw[Lf,K7 hKk];rfl
    have htk:=oI hkd
    rw[hgt]at htk
    rw[he]at hyb ⊢
    have HTK:=KO htk
    have y0:A1.cell? ⟨gy,0,none⟩=some (.int .i64 e.key):=hyb.cell 0
    have y1:A1.cell? ⟨gy,1,none⟩=some (.int .i64 e.val):=hyb.cell 1
    have cg:A1.cell? ⟨g+3,0,none⟩=some (.slice A' k c'):=h1.cell 0
    have cf:A1.frozen? ⟨g+3,0,none⟩=false:=h1.frozen 0
    have m0:A1.cell? ⟨g+2,0,none⟩=some (.int .i64 (n:Nat)):=h3.cell 0
    have HS:=KO hS
    have H1:=KO h1
    have HO:=KO h2
    have H3:=KO h3
    have H4:=KO h4
    have H5:=KO h5
    have hgz:gy< A1.heap.size:=hyb.lt
    have hg3:g+3< A1.heap.size:=h1.lt
    have hkb:k<=1000:=by have:=HNN.out;omega
    have HKD:=KO (KW hkd (KW hkn hk))
    have HKF:=KO (show∀b,Jg gp pb A P b->b< w2.heap.size/\g+5<=b from fun b hb=>by
     rcases hb with rfl|rfl|⟨a,hP,ha,rfl⟩
     ·omega
     ·omega
     ·rcases HSN.out with h|⟨b,off,hA,hlt,_⟩
      ·exact absurd (by cases P with|nil=>rfl|cons x r=>simp[Pr.cells]at h) hP
      ·have h7:=(HNE.out.2 a ha).1
       have h8:=HQ4.out.lt
       have h9:=HG.out
       rw[ha]at hA;cases hA
       refine⟨hlt,?_⟩
       omega)
    clear h1 h2 h3 h4 h5 hi hyb hy hS hgt htk he hkd hKk
    by_cases hq:k+1=n
    ·have q1:(((k+1:Nat):Int)==(n:Int))=true:=by rw[hq];simp
     have HQQ:=KO hq
     clear hq
     gi_wp2_with (gi_at_builtin;refine wpListIn_append_own _ rfl (.tmp 51) (.tmp 53) _ rfl (w2.heap.size+2) 55 ti0 _ 2 16 underlying47 HI.out.1 HI.out.2.1 HI.out.2.2.1 HI.out.2.2.2 rfl (by omega) (.slice A' k c') _ _ rfl (HO.out.alloc _) _ 1 _ [.int .i64 e.key,.int .i64 e.val] rfl (by simp) (by intro j u hu;rw[Addr.add_lit];exact((Blk.new A1 55 #[.int .i64 e.key,.int .i64 e.val]).cell (0+j)).trans (by simpa using hu)) (by simp[K5]) (by unfold maxLen;omega) (by omega) (by simp;omega) ?_;intro v2 x2 hown2 hg2 _;obtain⟨A2,c2,rfl,-,-⟩:=ak hown2;have hm2:Mod (fun b=>w2.heap.size+2<=b) A1 x2:=((Mod.refl _ _).alloc _).grown hg2 (fun k hk=> .inl (HO.out.lt k hk).1);have h2:=H1.out.mod hm2 (by omega);have cg2:x2.cell? ⟨g+3,0,none⟩=some (.slice A' k c'):=h2.cell 0;have cf2:x2.frozen? ⟨g+3,0,none⟩=false:=h2.frozen 0;have hm3:=H3.out.mod hm2 (by omega);have m2:x2.cell? ⟨g+2,0,none⟩=some (.int .i64 (n:Nat)):=hm3.cell 0)
     have HO2:=KO hown2
     have HM2:=KO hm2
     have H2:=KO h2
     have HN2:=KO hm3
     have HZ2:=KO (H4.out.mod hm2 (by omega))
     clear hown2 hm2 h2 hg2 hm3 cg2 cf2 m2
     have hb2:=H5.out.trans (HM2.out.below (HG.out ▸ H5.out.size) (by intro k hk;omega))
     have hgw:g+3< w2.heap.size:=by omega
     have hown:((x2.setCell ⟨g+3,0,none⟩ (.slice A2 (k+1) c2))).ownsRow (w2.heap.size+2) 55 2 (.slice A2 (k+1) c2) (k+1) (((P.drop K).take (k+1)).flatMap Pr.cells):=by
      rw[HTK.out];exact fe HO2.out (p:=⟨g+3,0,none⟩) (fun e=>by have:=(HO2.out.lt _ e).1;dsimp only at this;omega) _
     have hb3:Below g w (x2.setCell ⟨g+3,0,none⟩ (.slice A2 (k+1) c2)):=hb2.setCell (p:=⟨g+3,0,none⟩) (by show g<=g+3;omega) _
     have hm9:Mod (fun b=>b≠w2.heap.size/\b≠w2.heap.size+1/\¬Jg gp pb A P b) A1 (x2.setCell ⟨g+3,0,none⟩ (.slice A2 (k+1) c2)):=
      (HM2.out.mono (fun b _ hb=>⟨by omega,by omega,fun h=>by have:=HKF.out b h;omega⟩)).setCell (p:=⟨g+3,0,none⟩) ⟨by show g+3≠_;omega,by show g+3≠_;omega,fun h=>by have:=HKF.out _ h;dsimp only at this;omega⟩ _
     obtain⟨hL,hC⟩:=HBR.out k HKD.out.2.2 HQQ.out
     have hll:Lr.length=k+1:=by rw[hL,List.length_take,<-HQQ.out];have:=HKD.out.1;omega
     have hlt:(P.drop K).take (k+1)=Lr:=by rw[hL,HQQ.out]
     rw[hlt]at hown
     have hpl:Blk (x2.setCell ⟨g+3,0,none⟩ (.slice A2 (k+1) c2)) gp 82 (jH C.ver C.on C.key A P c):=by
      rw[hC];exact(HS.out.mod HM2.out (by omega)).far (p:=⟨g+3,0,none⟩) (by show gp≠g+3;omega) _
     refine⟨hm9.mono (fun b _ hb=>⟨hb.1,hb.2.1⟩),A2,c2,rfl,?_⟩
     show _/\_/\_/\_/\_
     rw[hll]
     exact⟨by simpa using H2.out.set_ 0 (.slice A2 (k+1) c2),hown,HZ2.out.far (p:=⟨g+3,0,none⟩) (by simp) _,hpl,hb3⟩
    ·have q1:(((k+1:Nat):Int)==(n:Int))=false:=by simp;omega
     have HQQ:=KO hq
     clear hq
     gi_wp2_with (gi_at_builtin;refine wpListIn_append_own _ rfl (.tmp 51) (.tmp 53) _ rfl (w2.heap.size+2) 55 ti0 _ 2 16 underlying47 HI.out.1 HI.out.2.1 HI.out.2.2.1 HI.out.2.2.2 rfl (by omega) (.slice A' k c') _ _ rfl (HO.out.alloc _) _ 1 _ [.int .i64 e.key,.int .i64 e.val] rfl (by simp) (by intro j u hu;rw[Addr.add_lit];exact((Blk.new A1 55 #[.int .i64 e.key,.int .i64 e.val]).cell (0+j)).trans (by simpa using hu)) (by simp[K5]) (by unfold maxLen;omega) (by omega) (by simp;omega) ?_;intro v2 x2 hown2 hg2 _;obtain⟨A2,c2,rfl,-,-⟩:=ak hown2;have hm2:Mod (fun b=>w2.heap.size+2<=b) A1 x2:=((Mod.refl _ _).alloc _).grown hg2 (fun k hk=> .inl (HO.out.lt k hk).1);have h2:=H1.out.mod hm2 (by omega);have cg2:x2.cell? ⟨g+3,0,none⟩=some (.slice A' k c'):=h2.cell 0;have cf2:x2.frozen? ⟨g+3,0,none⟩=false:=h2.frozen 0;have hm3:=H3.out.mod hm2 (by omega);have m2:x2.cell? ⟨g+2,0,none⟩=some (.int .i64 (n:Nat)):=hm3.cell 0)
     have HO2:=KO hown2
     have HM2:=KO hm2
     have H2:=KO h2
     have HN2:=KO hm3
     have HZ2:=KO (H4.out.mod hm2 (by omega))
     clear hown2 hm2 h2 hg2 hm3 cg2 cf2 m2
     have hb2:=H5.out.trans (HM2.out.below (HG.out ▸ H5.out.size) (by intro k hk;omega))
     have hgw:g+3< w2.heap.size:=by omega
     have hown:((x2.setCell ⟨g+3,0,none⟩ (.slice A2 (k+1) c2))).ownsRow (w2.heap.size+2) 55 2 (.slice A2 (k+1) c2) (k+1) (((P.drop K).take (k+1)).flatMap Pr.cells):=by
      rw[HTK.out];exact fe HO2.out (p:=⟨g+3,0,none⟩) (fun e=>by have:=(HO2.out.lt _ e).1;dsimp only at this;omega) _
     have hb3:Below g w (x2.setCell ⟨g+3,0,none⟩ (.slice A2 (k+1) c2)):=hb2.setCell (p:=⟨g+3,0,none⟩) (by show g<=g+3;omega) _
     have hm9:Mod (fun b=>b≠w2.heap.size/\b≠w2.heap.size+1/\¬Jg gp pb A P b) A1 (x2.setCell ⟨g+3,0,none⟩ (.slice A2 (k+1) c2)):=
      (HM2.out.mono (fun b _ hb=>⟨by omega,by omega,fun h=>by have:=HKF.out b h;omega⟩)).setCell (p:=⟨g+3,0,none⟩) ⟨by show g+3≠_;omega,by show g+3≠_;omega,fun h=>by have:=HKF.out _ h;dsimp only at this;omega⟩ _
     refine⟨hm9,A2,c2,by have:=HKD.out;have:=HQQ.out;omega,by simpa using H2.out.set_ 0 (.slice A2 (k+1) c2),hown,HN2.out.far (p:=⟨g+3,0,none⟩) (by simp) _,HZ2.out.far (p:=⟨g+3,0,none⟩) (by simp) _,hb3⟩
   case done=>
    rintro Wz ⟨A',c',hnn,h⟩ hE hD
    obtain⟨h1,ho,h3,h4,hb⟩:=h.out
    obtain⟨hL,hC⟩:=HDN.out hnn
    have hll:Lr.length=P.length-K:=by rw[hL,List.length_drop]
    have hlt:(P.drop K).take (P.length-K)=Lr:=by rw[hL];exact KZ (by rw[List.length_drop];omega)
    rw[hlt,<-hll]at ho
    rw[<-hll]at h1
    have hpl:Blk Wz gp 82 (jH C.ver C.on C.key A P c):=by rw[hC];exact hE HKP.out
    clear hE h h3 hL hC hll hlt hnn
    have d0:=h1.cell 0
    have d1:=h4.cell
    have f0:=h1.frozen 0
    have f1:=h4.frozen
    have pp:=hpl.cell
    have lp:=hpl.lt
    have H1:=KO h1
    have HO:=KO ho
    have H4:=KO h4
    have HB:=KO hb
    have HDD:=KO hD
    clear h1 ho h4 hpl hb hD
    gi_wp2
    gi_region
    gi_wp2
    have hR:=KO (((H1.out.set_ 0 (.slice A' Lr.length c')).far (p:=⟨(g+4),0,none⟩) (by simp) (.int .u64 C.ver)).far (p:=⟨(g+4),1,none⟩) (by simp) (.bool C.on) |>.far (p:=⟨(g+4),2,none⟩) (by simp) (.int .i64 C.key))
    have hE:=KO ((H4.out.far (p:=⟨(g+3),0,none⟩) (by simp) (.slice A' Lr.length c')).set3 (.int .u64 C.ver) (.bool C.on) (.int .i64 C.key))
    obtain⟨W9,hW9⟩:∃W9,((((Wz.setCell ⟨(g+3),0,none⟩ (.slice A' Lr.length c')).setCell ⟨(g+4),0,none⟩ (.int .u64 C.ver)).setCell ⟨(g+4),1,none⟩ (.bool C.on)).setCell ⟨(g+4),2,none⟩ (.int .i64 C.key)).drew=W9:=⟨_,rfl⟩
    have hm9:Mod (fun b=>b=g+3∨b=g+4) Wz W9:=by
     rw[<-hW9]
     exact((((Mod.refl (fun b=>b=g+3∨b=g+4) Wz).setCell (p:=⟨(g+3),0,none⟩) (.inl rfl) _).setCell (p:=⟨(g+4),0,none⟩) (.inr rfl) _).setCell (p:=⟨(g+4),1,none⟩) (.inr rfl) _).setCell (p:=⟨(g+4),2,none⟩) (.inr rfl) _ |>.trans (Mod.of_ext (KR _ _).drew)
    have hr9:Blk W9 (g+3) 47 #[.slice A' Lr.length c']:=by rw[<-hW9];exact dm (by simpa using hR.out)
    have he9:Blk W9 (g+4) 44 #[.int .u64 C.ver,.bool C.on,.int .i64 C.key]:=by rw[<-hW9];exact dm (by simpa using hE.out)
    try rw[hW9]
    have hlz:g+5<=w2.heap.size:=by have:=HGP.out;omega
    have e0:(W9.putObj w2.heap.size (.deferred none)).cell? ⟨(g+3),0,none⟩=some (.slice A' Lr.length c'):=(dJ hr9 (K9 (by omega))).cell 0
    have e1:(W9.putObj w2.heap.size (.deferred none)).cell? ⟨(g+4),0,none⟩=some (.int .u64 C.ver):=(dJ he9 (K9 (by omega))).cell 0
    have e2:(W9.putObj w2.heap.size (.deferred none)).cell? ⟨(g+4),1,none⟩=some (.bool C.on):=(dJ he9 (K9 (by omega))).cell 1
    have e3:(W9.putObj w2.heap.size (.deferred none)).cell? ⟨(g+4),2,none⟩=some (.int .i64 C.key):=(dJ he9 (K9 (by omega))).cell 2
    have hD9:W9.heap[w2.heap.size]?=some (.deferred (some [])):=(hm9.block _ (Array.getElem?_eq_some_iff.1 HDD.out).1 (by rintro(hb|hb) <;> omega)).trans HDD.out
    refine lK (v:= .tuple #[.slice A' Lr.length c',.agg #[.int .u64 C.ver,.bool C.on,.int .i64 C.key],.int .i64 0]) hD9 (by simp[results,results7,go_sem,e0,e1,e2,e3]) ⟨A',c',rfl,?_,?_⟩
    ·rw[HG.out]
     refine av (di (Sx:=fun b=>b=w2.heap.size) (di HO.out hm9 (by intro k hk;simp;omega)) (Mod.putObj (S:=fun b=>b=w2.heap.size) (Mod.refl _ _) rfl _) (fun k hk h=>by omega)) (by omega)
    ·rw[HG.out]
     have hb9:Below g w W9:=HB.out.trans (hm9.below (HG.out ▸ HB.out.size) (by rintro b (hb|hb) <;> omega))
     exact hb9.trans ⟨rfl,rfl,rfl,by simp[World.putObj],fun k hk=>K9 (by omega)⟩
   case stop=>
    rintro cc Wz ⟨A',c',rfl,h⟩ hD
    obtain⟨h1,ho,h4,hpl,hb⟩:=h.out
    clear h
    gi_wp2
    have d0:=h1.cell 0
    have d1:=h4.cell
    have f0:=h1.frozen 0
    have f1:=h4.frozen
    have pp:=hpl.cell
    have lp:=hpl.lt
    have H1:=KO h1
    have HO:=KO ho
    have H4:=KO h4
    have HB:=KO hb
    have HDD:=KO hD
    clear h1 ho h4 hpl hb hD
    gi_wp2
    gi_region
    gi_wp2
    have hR:=KO (((H1.out.set_ 0 (.slice A' Lr.length c')).far (p:=⟨(g+4),0,none⟩) (by simp) (.int .u64 C.ver)).far (p:=⟨(g+4),1,none⟩) (by simp) (.bool C.on) |>.far (p:=⟨(g+4),2,none⟩) (by simp) (.int .i64 C.key))
    have hE:=KO ((H4.out.far (p:=⟨(g+3),0,none⟩) (by simp) (.slice A' Lr.length c')).set3 (.int .u64 C.ver) (.bool C.on) (.int .i64 C.key))
    obtain⟨W9,hW9⟩:∃W9,((((Wz.setCell ⟨(g+3),0,none⟩ (.slice A' Lr.length c')).setCell ⟨(g+4),0,none⟩ (.int .u64 C.ver)).setCell ⟨(g+4),1,none⟩ (.bool C.on)).setCell ⟨(g+4),2,none⟩ (.int .i64 C.key)).drew=W9:=⟨_,rfl⟩
    have hm9:Mod (fun b=>b=g+3∨b=g+4) Wz W9:=by
     rw[<-hW9]
     exact((((Mod.refl (fun b=>b=g+3∨b=g+4) Wz).setCell (p:=⟨(g+3),0,none⟩) (.inl rfl) _).setCell (p:=⟨(g+4),0,none⟩) (.inr rfl) _).setCell (p:=⟨(g+4),1,none⟩) (.inr rfl) _).setCell (p:=⟨(g+4),2,none⟩) (.inr rfl) _ |>.trans (Mod.of_ext (KR _ _).drew)
    have hr9:Blk W9 (g+3) 47 #[.slice A' Lr.length c']:=by rw[<-hW9];exact dm (by simpa using hR.out)
    have he9:Blk W9 (g+4) 44 #[.int .u64 C.ver,.bool C.on,.int .i64 C.key]:=by rw[<-hW9];exact dm (by simpa using hE.out)
    try rw[hW9]
    have hlz:g+5<=w2.heap.size:=by have:=HGP.out;omega
    have e0:(W9.putObj w2.heap.size (.deferred none)).cell? ⟨(g+3),0,none⟩=some (.slice A' Lr.length c'):=(dJ hr9 (K9 (by omega))).cell 0
    have e1:(W9.putObj w2.heap.size (.deferred none)).cell? ⟨(g+4),0,none⟩=some (.int .u64 C.ver):=(dJ he9 (K9 (by omega))).cell 0
    have e2:(W9.putObj w2.heap.size (.deferred none)).cell? ⟨(g+4),1,none⟩=some (.bool C.on):=(dJ he9 (K9 (by omega))).cell 1
    have e3:(W9.putObj w2.heap.size (.deferred none)).cell? ⟨(g+4),2,none⟩=some (.int .i64 C.key):=(dJ he9 (K9 (by omega))).cell 2
    have hD9:W9.heap[w2.heap.size]?=some (.deferred (some [])):=(hm9.block _ (Array.getElem?_eq_some_iff.1 HDD.out).1 (by rintro(hb|hb) <;> omega)).trans HDD.out
    refine lK (v:= .tuple #[.slice A' Lr.length c',.agg #[.int .u64 C.ver,.bool C.on,.int .i64 C.key],.int .i64 0]) hD9 (by simp[results,results7,go_sem,e0,e1,e2,e3]) ⟨A',c',rfl,?_,?_⟩
    ·rw[HG.out]
     refine av (di (Sx:=fun b=>b=w2.heap.size) (di HO.out hm9 (by intro k hk;simp;omega)) (Mod.putObj (S:=fun b=>b=w2.heap.size) (Mod.refl _ _) rfl _) (fun k hk h=>by omega)) (by omega)
    ·rw[HG.out]
     have hb9:Below g w W9:=HB.out.trans (hm9.below (HG.out ▸ HB.out.size) (by rintro b (hb|hb) <;> omega))
     exact hb9.trans ⟨rfl,rfl,rfl,by simp[World.putObj],fun k hk=>K9 (by omega)⟩
 case hstep=>
  rintro L a W i o ho hLi hdep ⟨t35,t36,t37,t38,t39,t40,t41,t42,t43,t44,t34,rfl,hw,hy,f0,f1,f2,f3,f4,f5,f6,f7,f8,f9,f10,c2,c3,c5,c6,c7,c8,c9,c10⟩
  have HW:=KO hw
  have HY:=KO hy
  have F0:=KO f0
  have F1:=KO f1
  have F2:=KO f2
  have F3:=KO f3
  have F4:=KO f4
  have F5:=KO f5
  have F6:=KO f6
  have F7:=KO f7
  have F8:=KO f8
  have F9:=KO f9
  have F10:=KO f10
  have C2:=KO c2
  have C3:=KO c3
  have C5:=KO c5
  have C6:=KO c6
  have C7:=KO c7
  have C8:=KO c8
  have C9:=KO c9
  have C10:=KO c10
  clear hw hy f0 f1 f2 f3 f4 f5 f6 f7 f8 f9 f10 c2 c3 c5 c6 c7 c8 c9 c10
  have HLi:=KO hLi
  clear hLi
  match i,ho with
  |0,ho=>
   obtain rfl:=KQ ho
   clear hdep
   refine Le rfl (fun K1 hK1=>?_)
   have hK:=KO hK1
   clear hK1
   gi_wp2
   refine hK.out _ _ ?_;exact fK
  |1,ho=>
   obtain rfl:=KQ ho
   clear hdep
   refine Le rfl (fun K1 hK1=>?_)
   have hK:=KO hK1
   clear hK1
   gi_wp2
   refine hK.out _ _ ?_;exact fK
  |2,ho=>
   obtain rfl:=KQ ho
   have hl1:=hdep ⟨1,.data⟩ (by simp) rfl
   obtain rfl:=F1.out hl1
   clear hdep
   have hlast:L 3=false:=by
    cases h:L 3 with
    |false=>rfl
    |true=>exact absurd ((C3.out h).2) (by rw[HLi.out];exact KP)
   have hWA:=HW.out hlast
   subst hWA
   refine Le rfl (fun K1 hK1=>?_)
   have hK:=KO hK1
   clear hK1
   have a2:w1.drew.cell? ⟨g+1,2,none⟩=some (.int .i64 key):=HQ11.out.cell 2
   gi_wp2
   refine hK.out _ _ ?_;exact fK
  |3,ho=>
   obtain rfl:=KQ ho
   have hl0:=hdep ⟨0,.data⟩ (by simp) rfl
   obtain rfl:=F0.out hl0
   have hl2:=hdep ⟨2,.data⟩ (by simp) rfl
   obtain rfl:=F2.out hl2
   clear hdep
   have hlast:=HLi.out
   have hWA:=HW.out hlast
   subst hWA
   refine Le rfl (fun K1 hK1=>?_)
   have hK:=KO hK1
   clear hK1
   have hp:=HRK.out
   gi_wp2_with ((try first|refine⟨hdp,?_⟩|refine⟨hdd _,?_⟩);gi_at_call 30;refine(callsIn_wide.2 hp).mono ?_;rintro e w2 ⟨rfl,hb2⟩)
   refine hK.out _ _ ?_;exact fK
  |4,ho=>
   obtain rfl:=KQ ho
   clear hdep
   refine Le rfl (fun K1 hK1=>?_)
   have hK:=KO hK1
   clear hK1
   gi_wp2
   refine hK.out _ _ ?_;exact fK
  |5,ho=>
   obtain rfl:=KQ ho
   have hl4:=hdep ⟨4,.data⟩ (by simp) rfl
   obtain rfl:=F4.out hl4
   clear hdep
   refine Le rfl (fun K1 hK1=>?_)
   have hK:=KO hK1
   clear hK1
   gi_wp2
   refine hK.out _ _ ?_;exact fK
  |6,ho=>
   obtain rfl:=KQ ho
   have hl5:=hdep ⟨5,.data⟩ (by simp) rfl
   obtain rfl:=F5.out hl5
   clear hdep
   refine Le rfl (fun K1 hK1=>?_)
   have hK:=KO hK1
   clear hK1
   gi_wp2
   refine hK.out _ _ ?_;exact fK
  |7,ho=>
   obtain rfl:=KQ ho
   have hl6:=hdep ⟨6,.data⟩ (by simp) rfl
   obtain rfl:=F6.out hl6
   clear hdep
   refine Le rfl (fun K1 hK1=>?_)
   have hK:=KO hK1
   clear hK1
   have hbW:Below w1.heap.size w1.drew W:=by
    cases h:L 3 with
    |false=>rw[HW.out h];exact KR _ _
    |true=>exact HY.out h
   have p3:=((dm HPL.out).below hbW HPL.out.lt).cell 3
   clear hbW
   gi_wp2
   refine hK.out _ _ ?_;exact fK
  |8,ho=>
   obtain rfl:=KQ ho
   have hl7:=hdep ⟨7,.data⟩ (by simp) rfl
   obtain rfl:=F7.out hl7
   clear hdep
   refine Le rfl (fun K1 hK1=>?_)
   have hK:=KO hK1
   clear hK1
   gi_wp2
   refine hK.out _ _ ?_;exact fK
  |9,ho=>
   obtain rfl:=KQ ho
   have hl3:=hdep ⟨3,.data⟩ (by simp) rfl
   obtain rfl:=F3.out hl3
   have hl8:=hdep ⟨8,.data⟩ (by simp) rfl
   obtain rfl:=F8.out hl8
   clear hdep
   refine Le rfl (fun K1 hK1=>?_)
   have hK:=KO hK1
   clear hK1
   have hD:=HD.out
   gi_wp2
   refine hK.out _ _ ?_;exact fK
  |10,ho=>
   obtain rfl:=KQ ho
   have hl9:=hdep ⟨9,.data⟩ (by simp) rfl
   obtain rfl:=F9.out hl9
   have hl3:=hdep ⟨3,.chain⟩ (by simp) rfl
   obtain rfl:=F3.out hl3
   clear hdep
   refine Le rfl (fun K1 hK1=>?_)
   have hK:=KO hK1
   clear hK1
   gi_wp2
   refine hK.out _ _ ?_;exact fK
end
theorem DV (m:Mv) (cu:Cu) (most:Int) (w:World) (hs:MvAt w m) (ho:MvOk m) (hcp:m.ps.cs.length<=m.ps.cc) (hcb:m.bs.cs.length<=m.bs.cc):
  Calls prog 7 #[.agg m.row,.agg cu.row,.int .i64 most] w (lH (iV m cu most) (kz m cu most) (dQ m cu most) w):=by
 by_cases hz:dA m cu=0
 ·by_cases hr:0<=most/\most<=1000
  ·have he:dQ m cu most=0:=by unfold dQ;rw[if_pos hz,if_pos hr]
   unfold iV kz
   rw[he,if_pos rfl,if_pos rfl]
   by_cases h0:most=0
   ·rw[if_pos h0,h0]
    simpa using zH m cu 0 w hs ho hcp hcb hz rfl
   ·rw[if_neg h0]
    obtain⟨n,rfl⟩:∃n:Nat,most=((n:Nat):Int):=⟨most.toNat,by omega⟩
    have hn:0< n/\n<=1000:=by omega
    obtain⟨P,hP⟩:∃P,allM m=P:=⟨_,rfl⟩
    obtain⟨K,hK⟩:∃K,bel P cu.key=K:=⟨_,rfl⟩
    have hKl:K<=P.length:=by rw[<-hK];exact kP _ _
    rw[hP,hK,Int.toNat_natCast]
    refine Fx m cu n K P _ _ w hs ho hcp hcb hz hP hK hn (fun h=>?_) (fun k hk h=>⟨rfl,by rw[<-h,Nat.add_assoc]⟩) (fun h=>?_)
    ·refine⟨by rw[h,List.drop_length,List.take_nil],?_⟩
     unfold kw;rw[if_neg (by omega)]
    ·refine⟨KZ (by rw[List.length_drop];omega),?_⟩
     unfold kw;rw[if_neg (by omega)]
  ·have he:dQ m cu most=2:=by unfold dQ;rw[if_pos hz,if_neg hr]
   unfold iV kz
   rw[he,if_neg (by decide),if_neg (by decide)]
   exact EA m cu most w hs ho hcp hcb hz hr
 ·have he:dQ m cu most=dA m cu:=by unfold dQ;rw[if_neg hz]
  unfold iV kz
  rw[he,if_neg hz,if_neg hz]
  exact DC m cu most w hs ho hcp hcb hz
end Go.Proofs.YtpbmbjjfdpkhbaaGreat
