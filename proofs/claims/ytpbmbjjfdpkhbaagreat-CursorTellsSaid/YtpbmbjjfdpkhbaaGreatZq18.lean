/- CursorTells of shelfmarklaw30: what cursors that are set, moved and read answer is as the document says, for every map, cursor and key; no condition. -/
import Derived.Test.YtpbmbjjfdpkhbaaGreatZq16
import Derived.Test.YtpbmbjjfdpkhbaaGreatZq17
import Derived.ProofKit
import Derived.OpenShut
import Derived.JoinedCond
import Derived.Deep.Slices
import Derived.Test.YtpbmbjjfdpkhbaaGreatZq1
import Derived.Test.YtpbmbjjfdpkhbaaGreatProg
import Derived.Test.YtpbmbjjfdpkhbaaGreatZq4
import Derived.Test.YtpbmbjjfdpkhbaaGreatZq9
import Derived.Test.YtpbmbjjfdpkhbaaGreatZq10
import Derived.Test.YtpbmbjjfdpkhbaaGreatZq15
import Derived.Test.YtpbmbjjfdpkhbaaGreatRows
namespace Go.Proofs.YtpbmbjjfdpkhbaaGreat
open Go Go.RowKit
set_option linter.all false
set_option maxRecDepth 100000
set_option maxHeartbeats 32000000
open Go.Proofs.Tryz
open Go renaming wpList_load_mid->LK,wp_load_mid->LY
open Go.DataW renaming trod->Ma,trod_int->MI,trod_struct->Np
open Go.Lib renaming hid->Lc
open List renaming append_assoc->Ny,drop->L9,flatMap_cons->NE,take->Mj,take_of_length_le->LF
open Nat renaming le_refl->Lf,mul_comm->Mk
theorem ji {P:Program} {a:Act} {w:World} {ops:Array Oper} {rest:List Oper} {op:Oper} {Q:Exit->Act->World->Prop} (hgd:Region.wanted op (yielded ops a.tmps)=true)
  (ty:TypeId) (x:Operand) (ho:op.op= .load ty x)
  (b o:Nat) (hx:a.eval x= .pointer (some ⟨b,o,none⟩)) (cs:List Value) (d:TypeDesc) (hc:w.rangeAt b o cs)
  (hu:P.underlying ty=some d) (hd:d.isRow=true) (hi:(P.info? ty).map (·.size)=some cs.length)
  (h:wpList P ops Q rest (a.put op.dst (.agg cs.toArray)) w):wpList P ops Q (op::rest) a w:=by
 refine wpList_step fun K hK=>?_
 rw[if_pos hgd]
 exact LY ty x ho b o hx cs d hc hu hd hi (hK _ _ h)
theorem iH (c:Cu) (W:World):(binOp .eql 44 (.agg #[.int .u64 c.ver,.bool c.on,.int .i64 c.key]) (.agg #[.int .u64 c.ver,.bool c.on,.int .i64 c.key])).run prog W= .ok (.bool true) W:=by
 have h3:=underlying44
 simp only[go_sem,h3]
 simp[go_sem]
theorem Aw (p:Pr) (W:World):(binOp .eql 55 (.agg #[.int .i64 p.key,.int .i64 p.val]) (.agg #[.int .i64 p.key,.int .i64 p.val])).run prog W= .ok (.bool true) W:=by
 have h3:=underlying55
 simp only[go_sem,h3]
 simp[go_sem]
theorem DC (m:Mv) (cu:Cu) (w:World) (hs:MvAt w m) (ho:MvOk m) (hcp:m.ps.cs.length<=m.ps.cc) (hcb:m.bs.cs.length<=m.bs.cc):
  Calls prog 17 #[.agg m.row,.agg cu.row] w fun r w'=>r= .returned (.tuple #[.agg (iR m cu true).row,.int .i64 (iN m cu true)])/\Below w.heap.size w w':=by
 unfold iR iN
 by_cases hz:cO m cu=0
 ·rw[if_pos hz,if_pos hz]
  exact Bh m cu w hs ho hcp hcb hz
 ·rw[if_neg hz,if_neg hz]
  exact D8 m cu w hs ho hcp hcb hz
theorem EG (m:Mv) (cu:Cu) (w:World) (hs:MvAt w m) (ho:MvOk m) (hcp:m.ps.cs.length<=m.ps.cc) (hcb:m.bs.cs.length<=m.bs.cc):
  Calls prog 19 #[.agg m.row,.agg cu.row] w fun r w'=>r= .returned (.tuple #[.agg (iR m cu false).row,.int .i64 (iN m cu false)])/\Below w.heap.size w w':=by
 unfold iR iN
 by_cases hz:cO m cu=0
 ·rw[if_pos hz,if_pos hz]
  exact Bq m cu w hs ho hcp hcb hz
 ·rw[if_neg hz,if_neg hz]
  exact ER m cu w hs ho hcp hcb hz
theorem qE (m:Mv) (cu:Cu) (key:Int) (w:World) (hs:MvAt w m) (hw:∀x∈m.ps.ws,x< 18446744073709551616) (hv:∀x∈m.bs.ws,x< 18446744073709551616):
  Calls prog 4 #[.agg m.row,.agg cu.row,.int .i64 key] w fun r w'=>r= .returned (.bool true)/\Below w.heap.size w w':=by
 obtain⟨W0,hW0⟩:∃W,((w.alloc (.cells m.row 42)).alloc (.cells #[.int .u64 cu.ver,.bool cu.on,.int .i64 cu.key] 44))=W:=⟨_,rfl⟩
 have hb0:Below w.heap.size w W0:=by rw[<-hW0];exact(((Below.refl _ _).alloc (by first|exact Lf _|(simp;done)|(simp;omega)) _).alloc (by first|exact Lf _|(simp;done)|(simp;omega)) _)
 have bq0:Blk W0 w.heap.size 42 m.row:=by rw[<-hW0];exact((Blk.new _ _ _).alloc _)
 have HQ0:=Lc bq0
 have bq1:Blk W0 (w.heap.size+1) 44 #[.int .u64 cu.ver,.bool cu.on,.int .i64 cu.key]:=by rw[<-hW0];exact(aj (by simp))
 have HQ1:=Lc bq1
 have HW0:=Lc hW0
 have HB0:=Lc hb0
 clear hW0 hb0 bq0 bq1
 have hgr:=yH m W0 (hs.below HB0.out) hw hv
 have htw:=fun(ho:MvOk m) W (h:MvAt W m)=>Ak m W h ho
 obtain⟨C0,hC0⟩:∃C:Cu,iX m (0:Int)=C:=⟨_,rfl⟩
 obtain⟨D0,hD0⟩:∃D:Int,iV m (0:Int)=D:=⟨_,rfl⟩
 have ho0:∀(_:MvOk m) (n:Mv) W,MvLike m n->MvAt W n->Calls prog 11 #[.agg n.row] W (fun r w'=>r= .returned (.tuple #[.agg C0.row,.int .i64 D0])/\Below W.heap.size W w'):=fun ho n W h1 h2=>by
  have:=zO n W h2 (dR h1 ho) (h1.ps.cap) (h1.bs.cap)
  rw[(iB h1 _).1,(iB h1 _).2,hC0,hD0]at this
  exact this
 have hr0:∀(_:MvOk m) W,MvAt W m->Calls prog 12 #[.agg m.row] W (fun r w'=>r= .returned (.tuple #[.agg C0.row,.int .i64 D0])/\Below W.heap.size W w'):=fun ho W h1=>by
  have:=yX m W h1 ho
  rw[hC0,hD0]at this
  exact this
 have HO0:=Lc ho0
 have HR0:=Lc hr0
 clear ho0 hr0 hC0 hD0
 obtain⟨C1,hC1⟩:∃C:Cu,iX m (((allM m).length:Int)-1)=C:=⟨_,rfl⟩
 obtain⟨D1,hD1⟩:∃D:Int,iV m (((allM m).length:Int)-1)=D:=⟨_,rfl⟩
 have ho1:∀(_:MvOk m) (n:Mv) W,MvLike m n->MvAt W n->Calls prog 13 #[.agg n.row] W (fun r w'=>r= .returned (.tuple #[.agg C1.row,.int .i64 D1])/\Below W.heap.size W w'):=fun ho n W h1 h2=>by
  have:=DU n W h2 (dR h1 ho) (h1.ps.cap) (h1.bs.cap)
  rw[jN h1]at this
  rw[(iB h1 _).1,(iB h1 _).2,hC1,hD1]at this
  exact this
 have hr1:∀(_:MvOk m) W,MvAt W m->Calls prog 14 #[.agg m.row] W (fun r w'=>r= .returned (.tuple #[.agg C1.row,.int .i64 D1])/\Below W.heap.size W w'):=fun ho W h1=>by
  have:=zN m W h1 ho
  rw[hC1,hD1]at this
  exact this
 have HO1:=Lc ho1
 have HR1:=Lc hr1
 clear ho1 hr1 hC1 hD1
 obtain⟨C2,hC2⟩:∃C:Cu,iX m ((bel (allM m) key:Nat):Int)=C:=⟨_,rfl⟩
 obtain⟨D2,hD2⟩:∃D:Int,iV m ((bel (allM m) key:Nat):Int)=D:=⟨_,rfl⟩
 have ho2:∀(_:MvOk m) (n:Mv) W,MvLike m n->MvAt W n->Calls prog 15 #[.agg n.row,.int .i64 key] W (fun r w'=>r= .returned (.tuple #[.agg C2.row,.int .i64 D2])/\Below W.heap.size W w'):=fun ho n W h1 h2=>by
  have:=Es n key W h2 (dR h1 ho) (h1.ps.cap) (h1.bs.cap)
  rw[jN h1]at this
  rw[(iB h1 _).1,(iB h1 _).2,hC2,hD2]at this
  exact this
 have hr2:∀(_:MvOk m) W,MvAt W m->Calls prog 16 #[.agg m.row,.int .i64 key] W (fun r w'=>r= .returned (.tuple #[.agg C2.row,.int .i64 D2])/\Below W.heap.size W w'):=fun ho W h1=>by
  have:=Br m key W h1 ho
  rw[hC2,hD2]at this
  exact this
 have HO2:=Lc ho2
 have HR2:=Lc hr2
 clear ho2 hr2 hC2 hD2
 obtain⟨C3,hC3⟩:∃C:Cu,iR m cu true=C:=⟨_,rfl⟩
 obtain⟨D3,hD3⟩:∃D:Int,iN m cu true=D:=⟨_,rfl⟩
 have ho3:∀(_:MvOk m) (n:Mv) W,MvLike m n->MvAt W n->Calls prog 17 #[.agg n.row,.agg cu.row] W (fun r w'=>r= .returned (.tuple #[.agg C3.row,.int .i64 D3])/\Below W.heap.size W w'):=fun ho n W h1 h2=>by
  have:=DC n cu W h2 (dR h1 ho) (h1.ps.cap) (h1.bs.cap)
  rw[(kF h1 _ _).1,(kF h1 _ _).2,hC3,hD3]at this
  exact this
 have hr3:∀(_:MvOk m) W,MvAt W m->Calls prog 18 #[.agg m.row,.agg cu.row] W (fun r w'=>r= .returned (.tuple #[.agg C3.row,.int .i64 D3])/\Below W.heap.size W w'):=fun ho W h1=>by
  have:=Ae m cu W h1 ho
  rw[hC3,hD3]at this
  exact this
 have HO3:=Lc ho3
 have HR3:=Lc hr3
 clear ho3 hr3 hC3 hD3
 obtain⟨C4,hC4⟩:∃C:Cu,iR m cu false=C:=⟨_,rfl⟩
 obtain⟨D4,hD4⟩:∃D:Int,iN m cu false=D:=⟨_,rfl⟩
 have ho4:∀(_:MvOk m) (n:Mv) W,MvLike m n->MvAt W n->Calls prog 19 #[.agg n.row,.agg cu.row] W (fun r w'=>r= .returned (.tuple #[.agg C4.row,.int .i64 D4])/\Below W.heap.size W w'):=fun ho n W h1 h2=>by
  have:=EG n cu W h2 (dR h1 ho) (h1.ps.cap) (h1.bs.cap)
  rw[(kF h1 _ _).1,(kF h1 _ _).2,hC4,hD4]at this
  exact this
 have hr4:∀(_:MvOk m) W,MvAt W m->Calls prog 20 #[.agg m.row,.agg cu.row] W (fun r w'=>r= .returned (.tuple #[.agg C4.row,.int .i64 D4])/\Below W.heap.size W w'):=fun ho W h1=>by
  have:=AX m cu W h1 ho
  rw[hC4,hD4]at this
  exact this
 have HO4:=Lc ho4
 have HR4:=Lc hr4
 clear ho4 hr4 hC4 hD4
 obtain⟨C5,hC5⟩:∃C:Pr,mI m cu=C:=⟨_,rfl⟩
 obtain⟨D5,hD5⟩:∃D:Int,pW m cu=D:=⟨_,rfl⟩
 have ho5:∀(_:MvOk m) (n:Mv) W,MvLike m n->MvAt W n->Calls prog 21 #[.agg n.row,.agg cu.row] W (fun r w'=>r= .returned (.tuple #[.agg #[.int .i64 C5.key,.int .i64 C5.val],.int .i64 D5])/\Below W.heap.size W w'):=fun ho n W h1 h2=>by
  have:=Dy n cu W h2 (dR h1 ho) (h1.ps.cap) (h1.bs.cap)
  rw[(ry h1 _).1,(ry h1 _).2,hC5,hD5]at this
  exact this
 have hr5:∀(_:MvOk m) W,MvAt W m->Calls prog 22 #[.agg m.row,.agg cu.row] W (fun r w'=>r= .returned (.tuple #[.agg #[.int .i64 C5.key,.int .i64 C5.val],.int .i64 D5])/\Below W.heap.size W w'):=fun ho W h1=>by
  have:=Ag m cu W h1 ho
  rw[hC5,hD5]at this
  exact this
 have HO5:=Lc ho5
 have HR5:=Lc hr5
 clear ho5 hr5 hC5 hD5
 have hsm:∀(_:MvOk m) (n:Mv) W,MvLike m n->MvAt W n->MvAt W m->Calls prog 10 #[.agg n.row,.agg m.row] W (fun r w'=>r= .returned (.bool true)/\Below W.heap.size W w'):=fun ho n W h1 h2 h3=>by
  have:=zz (.inr rfl) n m W h2 h3 (dR h1 ho) ho
  rw[AB h1]at this
  exact this
 have HSM:=Lc hsm
 have HGR:=Lc hgr
 have HTW:=Lc htw
 have HS0:=Lc (hs.below HB0.out)
 clear hgr htw hsm hs hw hv
 go_enter func4,ntmps4
 go_upto_region 1 with fail
 rw[HW0.out]
 try dsimp only[]
 repeat (first|refine LK rfl 42 (.tmp 3) rfl w.heap.size 0 rfl _ _ (ae HQ0.out 0 46 rfl) underlying42 rfl af ?_|refine LY 42 (.tmp 3) rfl w.heap.size 0 rfl _ _ (ae HQ0.out 0 46 rfl) underlying42 rfl af ?_|go_values|go_skip|go_guarded|go_step|go_upon)
 refine HGR.out.mono ?_
 rintro e w1 ⟨G,rfl,hG,hb1⟩
 have HB1:=Lc (aa HB0.out hb1)
 have HQ01:=Lc (HQ0.out.below hb1 HQ0.out.lt)
 have HQ11:=Lc (HQ1.out.below hb1 HQ1.out.lt)
 have HS1:=Lc (HS0.out.below hb1)
 clear hb1
 cases G with
 |true=>
  clear hG
  go_wp2_with fail
  go_ret
  exact⟨rfl,HB1.out⟩
 |false=>
 have hok:=hG rfl
 clear hG
 go_upto_region 3 with fail
 try dsimp only[]
 repeat (first|refine LK rfl 42 (.tmp 3) rfl w.heap.size 0 rfl _ _ (ae HQ01.out 0 46 rfl) underlying42 rfl af ?_|refine LY 42 (.tmp 3) rfl w.heap.size 0 rfl _ _ (ae HQ01.out 0 46 rfl) underlying42 rfl af ?_|go_values|go_skip|go_guarded|go_step|go_upon)
 refine(HTW.out hok _ HS1.out).mono ?_
 rintro e w2 ⟨n,rfl,hlk,hh,hb2⟩
 have HB2:=Lc (aa HB1.out hb2)
 have HQ02:=Lc (HQ01.out.below hb2 HQ01.out.lt)
 have HQ12:=Lc (HQ11.out.below hb2 HQ11.out.lt)
 have HS2:=Lc (HS1.out.below hb2)
 have HN2:=Lc hh
 have HLK:=Lc hlk
 have HOK:=Lc hok
 clear hb2 hh hlk hok
 try dsimp only[]
 repeat (first|(refine ah rfl 42 (.tmp 7) (.tmp 36) rfl w2.heap.size 0 n.row rfl rfl (aj rfl) (by simp) af (all_oneCell_toArray (by simp[Value.oneCell'])) ?_;intro v3 hm1 hk1;refine Hid.out ?_)|go_values|go_skip|go_guarded|go_step|go_upon)
 refine Lc ?_
 have hb3:Below w2.heap.size w2 v3:=((Below.refl _ _).alloc (Lf _) _).trans (hm1.below (by simp) (fun k hk=>Nat.le_of_eq (Eq.symm hk)))
 have HB3:=Lc (aa HB2.out hb3)
 have HQ03:=Lc (HQ02.out.below hb3 HQ02.out.lt)
 have HQ13:=Lc (HQ12.out.below hb3 HQ12.out.lt)
 have HS3:=Lc (HS2.out.below hb3)
 have HN3:=Lc ((HN2.out.ext hb3).now)
 have HV3:=Lc (show Blk v3 w2.heap.size 42 n.row by simpa[dn]using hk1)
 clear hm1 hk1 hb3
 obtain⟨gv,hgv⟩:∃g,w2.heap.size=g:=⟨_,rfl⟩
 rw[hgv]at HV3 ⊢
 clear hgv
 go_upto_region 4 with fail
 try dsimp only[]
 repeat (first|refine LK rfl 42 (.tmp 7) rfl gv 0 rfl _ _ (ae HV3.out 0 46 rfl) underlying42 rfl af ?_|refine LY 42 (.tmp 7) rfl gv 0 rfl _ _ (ae HV3.out 0 46 rfl) underlying42 rfl af ?_|go_values|go_skip|go_guarded|go_step|go_upon)
 refine(HO0.out HOK.out n _ HLK.out HN3.out).mono ?_
 rintro e u4 ⟨rfl,hb⟩
 go_upto_region 5 with fail
 obtain⟨v4,hv4⟩:∃W,u4.alloc (.cells #[.int .u64 C0.ver,.bool C0.on,.int .i64 C0.key] 44)=W:=⟨_,rfl⟩
 have hbn:Below v3.heap.size v3 v4:=by rw[<-hv4];exact hb.alloc hb.size _
 have bn:Blk v4 u4.heap.size 44 #[.int .u64 C0.ver,.bool C0.on,.int .i64 C0.key]:=by rw[<-hv4];exact Blk.new _ _ _
 rw[hv4]
 obtain⟨gb4,hgb⟩:∃g,u4.heap.size=g:=⟨_,rfl⟩
 rw[hgb]at bn ⊢
 have HB4:=Lc (aa HB3.out hbn)
 have HQ04:=Lc (HQ03.out.below hbn HQ03.out.lt)
 have HQ14:=Lc (HQ13.out.below hbn HQ13.out.lt)
 have HS4:=Lc (HS3.out.below hbn)
 have HN4:=Lc (HN3.out.below hbn)
 have HV4:=Lc (HV3.out.below hbn HV3.out.lt)
 have HX4_4:=Lc bn
 clear hb hbn bn hv4 hgb
 clear HB3 HQ03 HQ13 HS3 HN3 HV3
 go_upto_region 5 with fail
 try dsimp only[]
 repeat (first|refine LK rfl 42 (.tmp 3) rfl w.heap.size 0 rfl _ _ (ae HQ04.out 0 46 rfl) underlying42 rfl af ?_|refine LY 42 (.tmp 3) rfl w.heap.size 0 rfl _ _ (ae HQ04.out 0 46 rfl) underlying42 rfl af ?_|go_values|go_skip|go_guarded|go_step|go_upon)
 refine(HR0.out HOK.out _ HS4.out).mono ?_
 rintro e u5 ⟨rfl,hb⟩
 go_upto_region 6 with fail
 obtain⟨v5,hv5⟩:∃W,u5.alloc (.cells #[.int .u64 C0.ver,.bool C0.on,.int .i64 C0.key] 44)=W:=⟨_,rfl⟩
 have hbn:Below v4.heap.size v4 v5:=by rw[<-hv5];exact hb.alloc hb.size _
 have bn:Blk v5 u5.heap.size 44 #[.int .u64 C0.ver,.bool C0.on,.int .i64 C0.key]:=by rw[<-hv5];exact Blk.new _ _ _
 rw[hv5]
 obtain⟨gb5,hgb⟩:∃g,u5.heap.size=g:=⟨_,rfl⟩
 rw[hgb]at bn ⊢
 have HB5:=Lc (aa HB4.out hbn)
 have HQ05:=Lc (HQ04.out.below hbn HQ04.out.lt)
 have HQ15:=Lc (HQ14.out.below hbn HQ14.out.lt)
 have HS5:=Lc (HS4.out.below hbn)
 have HN5:=Lc (HN4.out.below hbn)
 have HV5:=Lc (HV4.out.below hbn HV4.out.lt)
 have HX4_5:=Lc (HX4_4.out.below hbn HX4_4.out.lt)
 have HX5_5:=Lc bn
 clear hb hbn bn hv5 hgb
 clear HB4 HQ04 HQ14 HS4 HN4 HV4 HX4_4
 go_upto_region 6 with fail
 try dsimp only[]
 repeat (first|refine LK rfl 42 (.tmp 7) rfl gv 0 rfl _ _ (ae HV5.out 0 46 rfl) underlying42 rfl af ?_|refine LY 42 (.tmp 7) rfl gv 0 rfl _ _ (ae HV5.out 0 46 rfl) underlying42 rfl af ?_|go_values|go_skip|go_guarded|go_step|go_upon)
 refine(HO1.out HOK.out n _ HLK.out HN5.out).mono ?_
 rintro e u6 ⟨rfl,hb⟩
 go_upto_region 7 with fail
 obtain⟨v6,hv6⟩:∃W,u6.alloc (.cells #[.int .u64 C1.ver,.bool C1.on,.int .i64 C1.key] 44)=W:=⟨_,rfl⟩
 have hbn:Below v5.heap.size v5 v6:=by rw[<-hv6];exact hb.alloc hb.size _
 have bn:Blk v6 u6.heap.size 44 #[.int .u64 C1.ver,.bool C1.on,.int .i64 C1.key]:=by rw[<-hv6];exact Blk.new _ _ _
 rw[hv6]
 obtain⟨gb6,hgb⟩:∃g,u6.heap.size=g:=⟨_,rfl⟩
 rw[hgb]at bn ⊢
 have HB6:=Lc (aa HB5.out hbn)
 have HQ06:=Lc (HQ05.out.below hbn HQ05.out.lt)
 have HQ16:=Lc (HQ15.out.below hbn HQ15.out.lt)
 have HS6:=Lc (HS5.out.below hbn)
 have HN6:=Lc (HN5.out.below hbn)
 have HV6:=Lc (HV5.out.below hbn HV5.out.lt)
 have HX4_6:=Lc (HX4_5.out.below hbn HX4_5.out.lt)
 have HX5_6:=Lc (HX5_5.out.below hbn HX5_5.out.lt)
 have HX6_6:=Lc bn
 clear hb hbn bn hv6 hgb
 clear HB5 HQ05 HQ15 HS5 HN5 HV5 HX4_5 HX5_5
 go_upto_region 7 with fail
 try dsimp only[]
 repeat (first|refine LK rfl 42 (.tmp 3) rfl w.heap.size 0 rfl _ _ (ae HQ06.out 0 46 rfl) underlying42 rfl af ?_|refine LY 42 (.tmp 3) rfl w.heap.size 0 rfl _ _ (ae HQ06.out 0 46 rfl) underlying42 rfl af ?_|go_values|go_skip|go_guarded|go_step|go_upon)
 refine(HR1.out HOK.out _ HS6.out).mono ?_
 rintro e u7 ⟨rfl,hb⟩
 go_upto_region 8 with fail
 obtain⟨v7,hv7⟩:∃W,u7.alloc (.cells #[.int .u64 C1.ver,.bool C1.on,.int .i64 C1.key] 44)=W:=⟨_,rfl⟩
 have hbn:Below v6.heap.size v6 v7:=by rw[<-hv7];exact hb.alloc hb.size _
 have bn:Blk v7 u7.heap.size 44 #[.int .u64 C1.ver,.bool C1.on,.int .i64 C1.key]:=by rw[<-hv7];exact Blk.new _ _ _
 rw[hv7]
 obtain⟨gb7,hgb⟩:∃g,u7.heap.size=g:=⟨_,rfl⟩
 rw[hgb]at bn ⊢
 have HB7:=Lc (aa HB6.out hbn)
 have HQ07:=Lc (HQ06.out.below hbn HQ06.out.lt)
 have HQ17:=Lc (HQ16.out.below hbn HQ16.out.lt)
 have HS7:=Lc (HS6.out.below hbn)
 have HN7:=Lc (HN6.out.below hbn)
 have HV7:=Lc (HV6.out.below hbn HV6.out.lt)
 have HX4_7:=Lc (HX4_6.out.below hbn HX4_6.out.lt)
 have HX5_7:=Lc (HX5_6.out.below hbn HX5_6.out.lt)
 have HX6_7:=Lc (HX6_6.out.below hbn HX6_6.out.lt)
 have HX7_7:=Lc bn
 clear hb hbn bn hv7 hgb
 clear HB6 HQ06 HQ16 HS6 HN6 HV6 HX4_6 HX5_6 HX6_6
 go_upto_region 8 with fail
 try dsimp only[]
 repeat (first|refine LK rfl 42 (.tmp 7) rfl gv 0 rfl _ _ (ae HV7.out 0 46 rfl) underlying42 rfl af ?_|refine LY 42 (.tmp 7) rfl gv 0 rfl _ _ (ae HV7.out 0 46 rfl) underlying42 rfl af ?_|go_values|go_skip|go_guarded|go_step|go_upon)
 refine(HO2.out HOK.out n _ HLK.out HN7.out).mono ?_
 rintro e u8 ⟨rfl,hb⟩
 go_upto_region 9 with fail
 obtain⟨v8,hv8⟩:∃W,u8.alloc (.cells #[.int .u64 C2.ver,.bool C2.on,.int .i64 C2.key] 44)=W:=⟨_,rfl⟩
 have hbn:Below v7.heap.size v7 v8:=by rw[<-hv8];exact hb.alloc hb.size _
 have bn:Blk v8 u8.heap.size 44 #[.int .u64 C2.ver,.bool C2.on,.int .i64 C2.key]:=by rw[<-hv8];exact Blk.new _ _ _
 rw[hv8]
 obtain⟨gb8,hgb⟩:∃g,u8.heap.size=g:=⟨_,rfl⟩
 rw[hgb]at bn ⊢
 have HB8:=Lc (aa HB7.out hbn)
 have HQ08:=Lc (HQ07.out.below hbn HQ07.out.lt)
 have HQ18:=Lc (HQ17.out.below hbn HQ17.out.lt)
 have HS8:=Lc (HS7.out.below hbn)
 have HN8:=Lc (HN7.out.below hbn)
 have HV8:=Lc (HV7.out.below hbn HV7.out.lt)
 have HX4_8:=Lc (HX4_7.out.below hbn HX4_7.out.lt)
 have HX5_8:=Lc (HX5_7.out.below hbn HX5_7.out.lt)
 have HX6_8:=Lc (HX6_7.out.below hbn HX6_7.out.lt)
 have HX7_8:=Lc (HX7_7.out.below hbn HX7_7.out.lt)
 have HX8_8:=Lc bn
 clear hb hbn bn hv8 hgb
 clear HB7 HQ07 HQ17 HS7 HN7 HV7 HX4_7 HX5_7 HX6_7 HX7_7
 go_upto_region 9 with fail
 try dsimp only[]
 repeat (first|refine LK rfl 42 (.tmp 3) rfl w.heap.size 0 rfl _ _ (ae HQ08.out 0 46 rfl) underlying42 rfl af ?_|refine LY 42 (.tmp 3) rfl w.heap.size 0 rfl _ _ (ae HQ08.out 0 46 rfl) underlying42 rfl af ?_|go_values|go_skip|go_guarded|go_step|go_upon)
 refine(HR2.out HOK.out _ HS8.out).mono ?_
 rintro e u9 ⟨rfl,hb⟩
 go_upto_region 10 with fail
 obtain⟨v9,hv9⟩:∃W,u9.alloc (.cells #[.int .u64 C2.ver,.bool C2.on,.int .i64 C2.key] 44)=W:=⟨_,rfl⟩
 have hbn:Below v8.heap.size v8 v9:=by rw[<-hv9];exact hb.alloc hb.size _
 have bn:Blk v9 u9.heap.size 44 #[.int .u64 C2.ver,.bool C2.on,.int .i64 C2.key]:=by rw[<-hv9];exact Blk.new _ _ _
 rw[hv9]
 obtain⟨gb9,hgb⟩:∃g,u9.heap.size=g:=⟨_,rfl⟩
 rw[hgb]at bn ⊢
 have HB9:=Lc (aa HB8.out hbn)
 have HQ09:=Lc (HQ08.out.below hbn HQ08.out.lt)
 have HQ19:=Lc (HQ18.out.below hbn HQ18.out.lt)
 have HS9:=Lc (HS8.out.below hbn)
 have HN9:=Lc (HN8.out.below hbn)
 have HV9:=Lc (HV8.out.below hbn HV8.out.lt)
 have HX4_9:=Lc (HX4_8.out.below hbn HX4_8.out.lt)
 have HX5_9:=Lc (HX5_8.out.below hbn HX5_8.out.lt)
 have HX6_9:=Lc (HX6_8.out.below hbn HX6_8.out.lt)
 have HX7_9:=Lc (HX7_8.out.below hbn HX7_8.out.lt)
 have HX8_9:=Lc (HX8_8.out.below hbn HX8_8.out.lt)
 have HX9_9:=Lc bn
 clear hb hbn bn hv9 hgb
 clear HB8 HQ08 HQ18 HS8 HN8 HV8 HX4_8 HX5_8 HX6_8 HX7_8 HX8_8
 go_upto_region 10 with fail
 try dsimp only[]
 repeat (first|refine LK rfl 42 (.tmp 7) rfl gv 0 rfl _ _ (ae HV9.out 0 46 rfl) underlying42 rfl af ?_|refine LY 42 (.tmp 7) rfl gv 0 rfl _ _ (ae HV9.out 0 46 rfl) underlying42 rfl af ?_|refine LK rfl 44 (.tmp 4) rfl (w.heap.size+1) 0 rfl _ _ (ae HQ19.out 0 3 rfl) underlying44 rfl dE ?_|refine LY 44 (.tmp 4) rfl (w.heap.size+1) 0 rfl _ _ (ae HQ19.out 0 3 rfl) underlying44 rfl dE ?_|go_values|go_skip|go_guarded|go_step|go_upon)
 refine(HO3.out HOK.out n _ HLK.out HN9.out).mono ?_
 rintro e u10 ⟨rfl,hb⟩
 go_upto_region 11 with fail
 obtain⟨v10,hv10⟩:∃W,u10.alloc (.cells #[.int .u64 C3.ver,.bool C3.on,.int .i64 C3.key] 44)=W:=⟨_,rfl⟩
 have hbn:Below v9.heap.size v9 v10:=by rw[<-hv10];exact hb.alloc hb.size _
 have bn:Blk v10 u10.heap.size 44 #[.int .u64 C3.ver,.bool C3.on,.int .i64 C3.key]:=by rw[<-hv10];exact Blk.new _ _ _
 rw[hv10]
 obtain⟨gb10,hgb⟩:∃g,u10.heap.size=g:=⟨_,rfl⟩
 rw[hgb]at bn ⊢
 have HB10:=Lc (aa HB9.out hbn)
 have HQ010:=Lc (HQ09.out.below hbn HQ09.out.lt)
 have HQ110:=Lc (HQ19.out.below hbn HQ19.out.lt)
 have HS10:=Lc (HS9.out.below hbn)
 have HN10:=Lc (HN9.out.below hbn)
 have HV10:=Lc (HV9.out.below hbn HV9.out.lt)
 have HX4_10:=Lc (HX4_9.out.below hbn HX4_9.out.lt)
 have HX5_10:=Lc (HX5_9.out.below hbn HX5_9.out.lt)
 have HX6_10:=Lc (HX6_9.out.below hbn HX6_9.out.lt)
 have HX7_10:=Lc (HX7_9.out.below hbn HX7_9.out.lt)
 have HX8_10:=Lc (HX8_9.out.below hbn HX8_9.out.lt)
 have HX9_10:=Lc (HX9_9.out.below hbn HX9_9.out.lt)
 have HX10_10:=Lc bn
 clear hb hbn bn hv10 hgb
 clear HB9 HQ09 HQ19 HS9 HN9 HV9 HX4_9 HX5_9 HX6_9 HX7_9 HX8_9 HX9_9
 go_upto_region 11 with fail
 try dsimp only[]
 repeat (first|refine LK rfl 42 (.tmp 3) rfl w.heap.size 0 rfl _ _ (ae HQ010.out 0 46 rfl) underlying42 rfl af ?_|refine LY 42 (.tmp 3) rfl w.heap.size 0 rfl _ _ (ae HQ010.out 0 46 rfl) underlying42 rfl af ?_|refine LK rfl 44 (.tmp 4) rfl (w.heap.size+1) 0 rfl _ _ (ae HQ110.out 0 3 rfl) underlying44 rfl dE ?_|refine LY 44 (.tmp 4) rfl (w.heap.size+1) 0 rfl _ _ (ae HQ110.out 0 3 rfl) underlying44 rfl dE ?_|go_values|go_skip|go_guarded|go_step|go_upon)
 refine(HR3.out HOK.out _ HS10.out).mono ?_
 rintro e u11 ⟨rfl,hb⟩
 go_upto_region 12 with fail
 obtain⟨v11,hv11⟩:∃W,u11.alloc (.cells #[.int .u64 C3.ver,.bool C3.on,.int .i64 C3.key] 44)=W:=⟨_,rfl⟩
 have hbn:Below v10.heap.size v10 v11:=by rw[<-hv11];exact hb.alloc hb.size _
 have bn:Blk v11 u11.heap.size 44 #[.int .u64 C3.ver,.bool C3.on,.int .i64 C3.key]:=by rw[<-hv11];exact Blk.new _ _ _
 rw[hv11]
 obtain⟨gb11,hgb⟩:∃g,u11.heap.size=g:=⟨_,rfl⟩
 rw[hgb]at bn ⊢
 have HB11:=Lc (aa HB10.out hbn)
 have HQ011:=Lc (HQ010.out.below hbn HQ010.out.lt)
 have HQ111:=Lc (HQ110.out.below hbn HQ110.out.lt)
 have HS11:=Lc (HS10.out.below hbn)
 have HN11:=Lc (HN10.out.below hbn)
 have HV11:=Lc (HV10.out.below hbn HV10.out.lt)
 have HX4_11:=Lc (HX4_10.out.below hbn HX4_10.out.lt)
 have HX5_11:=Lc (HX5_10.out.below hbn HX5_10.out.lt)
 have HX6_11:=Lc (HX6_10.out.below hbn HX6_10.out.lt)
 have HX7_11:=Lc (HX7_10.out.below hbn HX7_10.out.lt)
 have HX8_11:=Lc (HX8_10.out.below hbn HX8_10.out.lt)
 have HX9_11:=Lc (HX9_10.out.below hbn HX9_10.out.lt)
 have HX10_11:=Lc (HX10_10.out.below hbn HX10_10.out.lt)
 have HX11_11:=Lc bn
 clear hb hbn bn hv11 hgb
 clear HB10 HQ010 HQ110 HS10 HN10 HV10 HX4_10 HX5_10 HX6_10 HX7_10 HX8_10 HX9_10 HX10_10
 go_upto_region 12 with fail
 try dsimp only[]
 repeat (first|refine LK rfl 42 (.tmp 7) rfl gv 0 rfl _ _ (ae HV11.out 0 46 rfl) underlying42 rfl af ?_|refine LY 42 (.tmp 7) rfl gv 0 rfl _ _ (ae HV11.out 0 46 rfl) underlying42 rfl af ?_|refine LK rfl 44 (.tmp 4) rfl (w.heap.size+1) 0 rfl _ _ (ae HQ111.out 0 3 rfl) underlying44 rfl dE ?_|refine LY 44 (.tmp 4) rfl (w.heap.size+1) 0 rfl _ _ (ae HQ111.out 0 3 rfl) underlying44 rfl dE ?_|go_values|go_skip|go_guarded|go_step|go_upon)
 refine(HO4.out HOK.out n _ HLK.out HN11.out).mono ?_
 rintro e u12 ⟨rfl,hb⟩
 go_upto_region 13 with fail
 obtain⟨v12,hv12⟩:∃W,u12.alloc (.cells #[.int .u64 C4.ver,.bool C4.on,.int .i64 C4.key] 44)=W:=⟨_,rfl⟩
 have hbn:Below v11.heap.size v11 v12:=by rw[<-hv12];exact hb.alloc hb.size _
 have bn:Blk v12 u12.heap.size 44 #[.int .u64 C4.ver,.bool C4.on,.int .i64 C4.key]:=by rw[<-hv12];exact Blk.new _ _ _
 rw[hv12]
 obtain⟨gb12,hgb⟩:∃g,u12.heap.size=g:=⟨_,rfl⟩
 rw[hgb]at bn ⊢
 have HB12:=Lc (aa HB11.out hbn)
 have HQ012:=Lc (HQ011.out.below hbn HQ011.out.lt)
 have HQ112:=Lc (HQ111.out.below hbn HQ111.out.lt)
 have HS12:=Lc (HS11.out.below hbn)
 have HN12:=Lc (HN11.out.below hbn)
 have HV12:=Lc (HV11.out.below hbn HV11.out.lt)
 have HX4_12:=Lc (HX4_11.out.below hbn HX4_11.out.lt)
 have HX5_12:=Lc (HX5_11.out.below hbn HX5_11.out.lt)
 have HX6_12:=Lc (HX6_11.out.below hbn HX6_11.out.lt)
 have HX7_12:=Lc (HX7_11.out.below hbn HX7_11.out.lt)
 have HX8_12:=Lc (HX8_11.out.below hbn HX8_11.out.lt)
 have HX9_12:=Lc (HX9_11.out.below hbn HX9_11.out.lt)
 have HX10_12:=Lc (HX10_11.out.below hbn HX10_11.out.lt)
 have HX11_12:=Lc (HX11_11.out.below hbn HX11_11.out.lt)
 have HX12_12:=Lc bn
 clear hb hbn bn hv12 hgb
 clear HB11 HQ011 HQ111 HS11 HN11 HV11 HX4_11 HX5_11 HX6_11 HX7_11 HX8_11 HX9_11 HX10_11 HX11_11
 go_upto_region 13 with fail
 try dsimp only[]
 repeat (first|refine LK rfl 42 (.tmp 3) rfl w.heap.size 0 rfl _ _ (ae HQ012.out 0 46 rfl) underlying42 rfl af ?_|refine LY 42 (.tmp 3) rfl w.heap.size 0 rfl _ _ (ae HQ012.out 0 46 rfl) underlying42 rfl af ?_|refine LK rfl 44 (.tmp 4) rfl (w.heap.size+1) 0 rfl _ _ (ae HQ112.out 0 3 rfl) underlying44 rfl dE ?_|refine LY 44 (.tmp 4) rfl (w.heap.size+1) 0 rfl _ _ (ae HQ112.out 0 3 rfl) underlying44 rfl dE ?_|go_values|go_skip|go_guarded|go_step|go_upon)
 refine(HR4.out HOK.out _ HS12.out).mono ?_
 rintro e u13 ⟨rfl,hb⟩
 go_upto_region 14 with fail
 obtain⟨v13,hv13⟩:∃W,u13.alloc (.cells #[.int .u64 C4.ver,.bool C4.on,.int .i64 C4.key] 44)=W:=⟨_,rfl⟩
 have hbn:Below v12.heap.size v12 v13:=by rw[<-hv13];exact hb.alloc hb.size _
 have bn:Blk v13 u13.heap.size 44 #[.int .u64 C4.ver,.bool C4.on,.int .i64 C4.key]:=by rw[<-hv13];exact Blk.new _ _ _
 rw[hv13]
 obtain⟨gb13,hgb⟩:∃g,u13.heap.size=g:=⟨_,rfl⟩
 rw[hgb]at bn ⊢
 have HB13:=Lc (aa HB12.out hbn)
 have HQ013:=Lc (HQ012.out.below hbn HQ012.out.lt)
 have HQ113:=Lc (HQ112.out.below hbn HQ112.out.lt)
 have HS13:=Lc (HS12.out.below hbn)
 have HN13:=Lc (HN12.out.below hbn)
 have HV13:=Lc (HV12.out.below hbn HV12.out.lt)
 have HX4_13:=Lc (HX4_12.out.below hbn HX4_12.out.lt)
 have HX5_13:=Lc (HX5_12.out.below hbn HX5_12.out.lt)
 have HX6_13:=Lc (HX6_12.out.below hbn HX6_12.out.lt)
 have HX7_13:=Lc (HX7_12.out.below hbn HX7_12.out.lt)
 have HX8_13:=Lc (HX8_12.out.below hbn HX8_12.out.lt)
 have HX9_13:=Lc (HX9_12.out.below hbn HX9_12.out.lt)
 have HX10_13:=Lc (HX10_12.out.below hbn HX10_12.out.lt)
 have HX11_13:=Lc (HX11_12.out.below hbn HX11_12.out.lt)
 have HX12_13:=Lc (HX12_12.out.below hbn HX12_12.out.lt)
 have HX13_13:=Lc bn
 clear hb hbn bn hv13 hgb
 clear HB12 HQ012 HQ112 HS12 HN12 HV12 HX4_12 HX5_12 HX6_12 HX7_12 HX8_12 HX9_12 HX10_12 HX11_12 HX12_12
 go_upto_region 14 with fail
 try dsimp only[]
 repeat (first|refine LK rfl 42 (.tmp 7) rfl gv 0 rfl _ _ (ae HV13.out 0 46 rfl) underlying42 rfl af ?_|refine LY 42 (.tmp 7) rfl gv 0 rfl _ _ (ae HV13.out 0 46 rfl) underlying42 rfl af ?_|refine LK rfl 44 (.tmp 4) rfl (w.heap.size+1) 0 rfl _ _ (ae HQ113.out 0 3 rfl) underlying44 rfl dE ?_|refine LY 44 (.tmp 4) rfl (w.heap.size+1) 0 rfl _ _ (ae HQ113.out 0 3 rfl) underlying44 rfl dE ?_|go_values|go_skip|go_guarded|go_step|go_upon)
 refine(HO5.out HOK.out n _ HLK.out HN13.out).mono ?_
 rintro e u14 ⟨rfl,hb⟩
 go_upto_region 15 with fail
 obtain⟨v14,hv14⟩:∃W,u14.alloc (.cells #[.int .i64 C5.key,.int .i64 C5.val] 55)=W:=⟨_,rfl⟩
 have hbn:Below v13.heap.size v13 v14:=by rw[<-hv14];exact hb.alloc hb.size _
 have bn:Blk v14 u14.heap.size 55 #[.int .i64 C5.key,.int .i64 C5.val]:=by rw[<-hv14];exact Blk.new _ _ _
 rw[hv14]
 obtain⟨gb14,hgb⟩:∃g,u14.heap.size=g:=⟨_,rfl⟩
 rw[hgb]at bn ⊢
 have HB14:=Lc (aa HB13.out hbn)
 have HQ014:=Lc (HQ013.out.below hbn HQ013.out.lt)
 have HQ114:=Lc (HQ113.out.below hbn HQ113.out.lt)
 have HS14:=Lc (HS13.out.below hbn)
 have HN14:=Lc (HN13.out.below hbn)
 have HV14:=Lc (HV13.out.below hbn HV13.out.lt)
 have HX4_14:=Lc (HX4_13.out.below hbn HX4_13.out.lt)
 have HX5_14:=Lc (HX5_13.out.below hbn HX5_13.out.lt)
 have HX6_14:=Lc (HX6_13.out.below hbn HX6_13.out.lt)
 have HX7_14:=Lc (HX7_13.out.below hbn HX7_13.out.lt)
 have HX8_14:=Lc (HX8_13.out.below hbn HX8_13.out.lt)
 have HX9_14:=Lc (HX9_13.out.below hbn HX9_13.out.lt)
 have HX10_14:=Lc (HX10_13.out.below hbn HX10_13.out.lt)
 have HX11_14:=Lc (HX11_13.out.below hbn HX11_13.out.lt)
 have HX12_14:=Lc (HX12_13.out.below hbn HX12_13.out.lt)
 have HX13_14:=Lc (HX13_13.out.below hbn HX13_13.out.lt)
 have HX14_14:=Lc bn
 clear hb hbn bn hv14 hgb
 clear HB13 HQ013 HQ113 HS13 HN13 HV13 HX4_13 HX5_13 HX6_13 HX7_13 HX8_13 HX9_13 HX10_13 HX11_13 HX12_13 HX13_13
 go_upto_region 15 with fail
 try dsimp only[]
 repeat (first|refine LK rfl 42 (.tmp 3) rfl w.heap.size 0 rfl _ _ (ae HQ014.out 0 46 rfl) underlying42 rfl af ?_|refine LY 42 (.tmp 3) rfl w.heap.size 0 rfl _ _ (ae HQ014.out 0 46 rfl) underlying42 rfl af ?_|refine LK rfl 44 (.tmp 4) rfl (w.heap.size+1) 0 rfl _ _ (ae HQ114.out 0 3 rfl) underlying44 rfl dE ?_|refine LY 44 (.tmp 4) rfl (w.heap.size+1) 0 rfl _ _ (ae HQ114.out 0 3 rfl) underlying44 rfl dE ?_|go_values|go_skip|go_guarded|go_step|go_upon)
 refine(HR5.out HOK.out _ HS14.out).mono ?_
 rintro e u15 ⟨rfl,hb⟩
 go_upto_region 16 with fail
 obtain⟨v15,hv15⟩:∃W,u15.alloc (.cells #[.int .i64 C5.key,.int .i64 C5.val] 55)=W:=⟨_,rfl⟩
 have hbn:Below v14.heap.size v14 v15:=by rw[<-hv15];exact hb.alloc hb.size _
 have bn:Blk v15 u15.heap.size 55 #[.int .i64 C5.key,.int .i64 C5.val]:=by rw[<-hv15];exact Blk.new _ _ _
 rw[hv15]
 obtain⟨gb15,hgb⟩:∃g,u15.heap.size=g:=⟨_,rfl⟩
 rw[hgb]at bn ⊢
 have HB15:=Lc (aa HB14.out hbn)
 have HQ015:=Lc (HQ014.out.below hbn HQ014.out.lt)
 have HQ115:=Lc (HQ114.out.below hbn HQ114.out.lt)
 have HS15:=Lc (HS14.out.below hbn)
 have HN15:=Lc (HN14.out.below hbn)
 have HV15:=Lc (HV14.out.below hbn HV14.out.lt)
 have HX4_15:=Lc (HX4_14.out.below hbn HX4_14.out.lt)
 have HX5_15:=Lc (HX5_14.out.below hbn HX5_14.out.lt)
 have HX6_15:=Lc (HX6_14.out.below hbn HX6_14.out.lt)
 have HX7_15:=Lc (HX7_14.out.below hbn HX7_14.out.lt)
 have HX8_15:=Lc (HX8_14.out.below hbn HX8_14.out.lt)
 have HX9_15:=Lc (HX9_14.out.below hbn HX9_14.out.lt)
 have HX10_15:=Lc (HX10_14.out.below hbn HX10_14.out.lt)
 have HX11_15:=Lc (HX11_14.out.below hbn HX11_14.out.lt)
 have HX12_15:=Lc (HX12_14.out.below hbn HX12_14.out.lt)
 have HX13_15:=Lc (HX13_14.out.below hbn HX13_14.out.lt)
 have HX14_15:=Lc (HX14_14.out.below hbn HX14_14.out.lt)
 have HX15_15:=Lc bn
 clear hb hbn bn hv15 hgb
 clear HB14 HQ014 HQ114 HS14 HN14 HV14 HX4_14 HX5_14 HX6_14 HX7_14 HX8_14 HX9_14 HX10_14 HX11_14 HX12_14 HX13_14 HX14_14
 clear HO0 HO1 HO2 HO3 HO4 HO5 HR0 HR1 HR2 HR3 HR4 HR5 HGR HTW
 have x4_0:v15.cell? ⟨gb4,0,none⟩=some (.int .u64 C0.ver):=HX4_15.out.cell 0
 have x4_1:v15.cell? ⟨gb4,1,none⟩=some (.bool C0.on):=HX4_15.out.cell 1
 have x4_2:v15.cell? ⟨gb4,2,none⟩=some (.int .i64 C0.key):=HX4_15.out.cell 2
 have x5_0:v15.cell? ⟨gb5,0,none⟩=some (.int .u64 C0.ver):=HX5_15.out.cell 0
 have x5_1:v15.cell? ⟨gb5,1,none⟩=some (.bool C0.on):=HX5_15.out.cell 1
 have x5_2:v15.cell? ⟨gb5,2,none⟩=some (.int .i64 C0.key):=HX5_15.out.cell 2
 have x6_0:v15.cell? ⟨gb6,0,none⟩=some (.int .u64 C1.ver):=HX6_15.out.cell 0
 have x6_1:v15.cell? ⟨gb6,1,none⟩=some (.bool C1.on):=HX6_15.out.cell 1
 have x6_2:v15.cell? ⟨gb6,2,none⟩=some (.int .i64 C1.key):=HX6_15.out.cell 2
 have x7_0:v15.cell? ⟨gb7,0,none⟩=some (.int .u64 C1.ver):=HX7_15.out.cell 0
 have x7_1:v15.cell? ⟨gb7,1,none⟩=some (.bool C1.on):=HX7_15.out.cell 1
 have x7_2:v15.cell? ⟨gb7,2,none⟩=some (.int .i64 C1.key):=HX7_15.out.cell 2
 have x8_0:v15.cell? ⟨gb8,0,none⟩=some (.int .u64 C2.ver):=HX8_15.out.cell 0
 have x8_1:v15.cell? ⟨gb8,1,none⟩=some (.bool C2.on):=HX8_15.out.cell 1
 have x8_2:v15.cell? ⟨gb8,2,none⟩=some (.int .i64 C2.key):=HX8_15.out.cell 2
 have x9_0:v15.cell? ⟨gb9,0,none⟩=some (.int .u64 C2.ver):=HX9_15.out.cell 0
 have x9_1:v15.cell? ⟨gb9,1,none⟩=some (.bool C2.on):=HX9_15.out.cell 1
 have x9_2:v15.cell? ⟨gb9,2,none⟩=some (.int .i64 C2.key):=HX9_15.out.cell 2
 have x10_0:v15.cell? ⟨gb10,0,none⟩=some (.int .u64 C3.ver):=HX10_15.out.cell 0
 have x10_1:v15.cell? ⟨gb10,1,none⟩=some (.bool C3.on):=HX10_15.out.cell 1
 have x10_2:v15.cell? ⟨gb10,2,none⟩=some (.int .i64 C3.key):=HX10_15.out.cell 2
 have x11_0:v15.cell? ⟨gb11,0,none⟩=some (.int .u64 C3.ver):=HX11_15.out.cell 0
 have x11_1:v15.cell? ⟨gb11,1,none⟩=some (.bool C3.on):=HX11_15.out.cell 1
 have x11_2:v15.cell? ⟨gb11,2,none⟩=some (.int .i64 C3.key):=HX11_15.out.cell 2
 have x12_0:v15.cell? ⟨gb12,0,none⟩=some (.int .u64 C4.ver):=HX12_15.out.cell 0
 have x12_1:v15.cell? ⟨gb12,1,none⟩=some (.bool C4.on):=HX12_15.out.cell 1
 have x12_2:v15.cell? ⟨gb12,2,none⟩=some (.int .i64 C4.key):=HX12_15.out.cell 2
 have x13_0:v15.cell? ⟨gb13,0,none⟩=some (.int .u64 C4.ver):=HX13_15.out.cell 0
 have x13_1:v15.cell? ⟨gb13,1,none⟩=some (.bool C4.on):=HX13_15.out.cell 1
 have x13_2:v15.cell? ⟨gb13,2,none⟩=some (.int .i64 C4.key):=HX13_15.out.cell 2
 have x14_0:v15.cell? ⟨gb14,0,none⟩=some (.int .i64 C5.key):=HX14_15.out.cell 0
 have x14_1:v15.cell? ⟨gb14,1,none⟩=some (.int .i64 C5.val):=HX14_15.out.cell 1
 have x15_0:v15.cell? ⟨gb15,0,none⟩=some (.int .i64 C5.key):=HX15_15.out.cell 0
 have x15_1:v15.cell? ⟨gb15,1,none⟩=some (.int .i64 C5.val):=HX15_15.out.cell 1
 have he0:=fun W=>iH C0 W
 have he1:=fun W=>iH C1 W
 have he2:=fun W=>iH C2 W
 have he3:=fun W=>iH C3 W
 have he4:=fun W=>iH C4 W
 have he5:=fun W=>Aw C5 W
 go_upto_region 17 with fail
 have rg7:v15.rangeAt gv 0 n.row.toList:=ae HV15.out 0 46 rfl
 have rg3:v15.rangeAt w.heap.size 0 m.row.toList:=ae HQ015.out 0 46 rfl
 dsimp only at rg7 rg3
 try dsimp only[]
 repeat (first|refine ji rfl 42 (.tmp 7) rfl gv 0 rfl _ _ rg7 underlying42 rfl af ?_|refine ji rfl 42 (.tmp 3) rfl w.heap.size 0 rfl _ _ rg3 underlying42 rfl af ?_|go_values|go_skip|go_guarded|go_step|go_upon)
 clear rg7 rg3
 refine(HSM.out HOK.out n _ HLK.out HN15.out HS15.out).mono ?_
 rintro e w9 ⟨rfl,hb9⟩
 have HB9:=Lc (aa HB15.out hb9)
 clear hb9
 go_wp2_with fail
 go_ret
 exact⟨rfl,HB9.out⟩
section
open Go.ChangeShapes Go.WideShapes Go.ChangeAt Go.Deep
section
variable {H:Type} {enc:TypeId × Value->H} {P:Program}
theorem uh (hl:laidOutB P=true) {W W':World} {sp:Nat->Bool}:∀{ts:List TypeId} {vs:List Value} {ds:List (DataW H)} {ps:List MemPlace},
  (∀t∈ts,P.readableRec t=true/\t< P.types.size)->DataW.TrodAll enc P W 0 (fun _=>true) true ts vs ds ps->(∀p∈ps,W.sameAt W' p)->(∀p∈ps,sp p.block=true)->
  DataW.TrodAll enc P W' 0 sp true ts vs ds ps:=by
 intro ts
 induction ts with
 |nil=>
  intro vs ds ps _ h _ _
  obtain⟨rfl,rfl,rfl⟩:=trodAll_nil h
  exact trodAll_mk0
 |cons t ts ih=>
  intro vs ds ps hr h hs hsp
  obtain⟨v,vs',d,ds',p,q,rfl,rfl,rfl,h0,h1⟩:=trodAll_cons h
  exact⟨p,q,WideElems.Trod_stays hl (hr t (by simp)).1 (hr t (by simp)).2 h0 (fun x hx=>hs x (by simp[hx])) (fun x hx=>hsp x (by simp[hx])),
   ih (fun t' ht'=>hr t' (by simp[ht'])) h1 (fun x hx=>hs x (by simp[hx])) (fun x hx=>hsp x (by simp[hx])),rfl⟩
theorem GD {f:Func} {s:ChangeSpec} {W W':World} {args:Array Value} {ds:List (DataW H)} {before:List MemPlace} {tb:TypeId}
  (hl:laidOutB P=true) (hr:∀t∈f.params.toList,P.readableRec t=true/\t< P.types.size) (hv:s.vars=[])
  (hW:DataW.Whole enc P f.params.toList s.vars false W args.toList ds [] before)
  (hres:(s.fn H (ds++[])).results=[.lit (.bool true)]) (harg:(s.fn H (ds++[])).args=ds) (hvr:(s.fn H (ds++[])).vars=[])
  (hrt:f.resultTypes=#[tb]) (hbt:P.underlying tb=some .bool) (hb:Below W.heap.size W W'):
  s.post enc P f false true false false W args (.bool true) W':=by
 have hlt:=hW.lt
 have hW0:=hW
 obtain⟨p,q,hA,hV,rfl,_,_⟩:=hW
 rw[hv]at hV
 obtain⟨_,rfl⟩:=trodVars_none hV
 refine⟨ds,[],p++[],[],p,[],hW0,?_,?_,?_,World.keptBut_mono (fun x hx=>⟨hx,?_⟩) (hb.frame (·∈p++[])),fun h=>by cases h⟩
 ·rw[hres,hrt]
  exact trodAll_cons_mk (shut_bool hbt _) trodAll_mk0
 ·rw[harg]
  refine uh hl hr hA (fun x hx=>hb.same (hlt x (by simp[hx]))) (fun x hx=>?_)
  have:=hlt x (by simp[hx])
  simpa using this
 ·rw[hv,hvr];rfl
 ·rw[List.append_nil]at hx;exact .inr (.inl hx)
theorem EC {w:World} {a:Addr} {v:Value} (h:w.cell? a=some v):a=⟨a.block,a.off,none⟩:=by
 obtain⟨b,o,s⟩:=a
 cases s with
 |none=>rfl
 |some s=>
  unfold World.cell? at h
  split at h <;> simp at h
theorem iM {α:Type} {w:World} {t e:TypeId} {s fuel:Nat} {v:Value} {x:DataW H × List MemPlace} (f:α->List Value) (R:α->Prop) (hf:∀x,(f x).length=s) (hs:0< s)
  (ht:P.underlying t=some (.slice e)) (hc:P.cellsOf e=s)
  (hdec:∀fuel cs y,Ma enc P w 0 (fun _=>true) true fuel e cs=some y->∃x,cs=f x/\R x)
  (hv:∃a len cap,v= .slice a len cap) (h:Ma enc P w 0 (fun _=>true) true fuel t v.cells.toList=some x):
  ∃(A:Option Addr) (l:List α) (c:Nat),v= .slice A l.length c/\l.length<=c/\c<=maxLen/\Sl w A (l.flatMap f)/\∀x∈l,R x:=by
 obtain⟨a0,len0,cap0,rfl⟩:=hv
 rcases open_slice ht h with⟨hcs,_⟩|⟨a,len,cap,m,n,D,Pl,hcs,-,hlc,hcm,hm,-,hi⟩
 ·simp only[Value.cells]at hcs
  injection hcs with hcs _
  rw[hcs]
  exact⟨none,[],0,rfl,Lf _,Nat.zero_le _,.inl rfl,by simp⟩
 ·simp only[Value.cells]at hcs
  injection hcs with hcs _
  rw[hcs]
  have hlm:len<=m:=by rw[hm];simp;exact hlc
  have hx:∀i,i< len->∃x,(∀j,j< s->w.cell? (a.add (i*s+j))=(f x)[j]?)/\R x:=fun i hil=>by
   obtain⟨cs',h1,h2⟩:=hi i (by omega)
   obtain⟨x,rfl,hR⟩:=hdec _ _ _ h2
   rw[hc]at h1
   obtain⟨_,_,h3⟩:=World.cells?_some h1
   refine⟨x,fun j hj=>?_,hR⟩
   rw[<-h3 j hj,Go.Deep.add_add]
  have hl:∃l:List α,l.length=len/\∀i (hil:i< l.length),(∀j,j< s->w.cell? (a.add (i*s+j))=(f (l[i]'hil))[j]?)/\R (l[i]'hil):=by
   clear hi hlm hcs hm hlc hcm h
   induction len with
   |zero=>exact⟨[],rfl,fun i hil=>by simp at hil⟩
   |succ len ih=>
    obtain⟨l,hl,hg⟩:=ih fun i hi=>hx i (by omega)
    obtain⟨y,hy⟩:=hx len (by omega)
    refine⟨l++[y],by simp[hl],fun i hil=>?_⟩
    by_cases e:i< l.length
    ·rw[List.getElem_append_left e];exact hg i e
    ·have:i=len:=by simp at hil;omega
     subst this
     rw[List.getElem_append_right (by omega)]
     simpa[hl]using hy
  obtain⟨l,rfl,hg⟩:=hl
  refine⟨some a,l,cap,rfl,hlc,hcm,?_,fun x hx=>?_⟩
  ·by_cases h0:l.length=0
   ·left;rw[List.eq_nil_of_length_eq_zero h0];rfl
   ·right
    have hc0:=(hg 0 (by omega)).1 0 hs
    have hf0:(f (l[0]'(by omega)))[0]?=some ((f (l[0]'(by omega)))[0]'(by rw[hf];exact hs)):=List.getElem?_eq_getElem _
    rw[hf0]at hc0
    have ha0:a.add (0*s+0)=a:=by simp[Addr.add]
    rw[ha0]at hc0
    have ha:=EC hc0
    refine⟨a.block,a.off,by rw[<-ha],World.block_lt_of_cell? w a hc0,fun j u hu=>?_⟩
    have hjl:j< l.length*s:=by
     have:=(List.getElem?_eq_some_iff.1 hu).1
     rwa [aN f s hf]at this
    have hi:j/s< l.length:=Nat.div_lt_of_lt_mul (by rw[Mk];exact hjl)
    have hjs:j %s< s:=Nat.mod_lt _ hs
    have hj:j/s*s+j %s=j:=by rw[Mk];exact Nat.div_add_mod j s
    have hc1:=(hg (j/s) hi).1 (j %s) hjs
    rw[hj]at hc1
    have hfl:=flat_get f s hf l (j/s) (j %s) hi hjs
    rw[hj,hu]at hfl
    rw[<-hfl]at hc1
    rw[ha,Addr.add_lit]at hc1
    exact hc1
  ·obtain⟨i,hi,rfl⟩:=List.getElem_of_mem hx
   exact(hg i hi).2
theorem Ii {w:World} {e ti tb:TypeId} (he:P.underlying e=some (.struct #[⟨"Key",ti,0,false,"","",0⟩,⟨"Val",ti,1,false,"","",8⟩,⟨"Dead",tb,2,false,"","",16⟩]))
  (hi:P.underlying ti=some (.int .i64)) (hb:P.underlying tb=some .bool) (hc:P.cellsOf e=3) (hci:P.cellsOf ti=1) (hcb:P.cellsOf tb=1)
  (fuel:Nat) (cs:List Value) (y:DataW H × List MemPlace) (h:Ma enc P w 0 (fun _=>true) true fuel e cs=some y):∃x:Ent,cs=x.cells/\True:=by
 obtain⟨xs,n,_,_,hlen,hxl,hf⟩:=Np he h
 rw[hc]at hlen
 match cs,hlen with
 |[c0,c1,c2],_=>
  match xs,hxl with
  |[x0,x1,x2],_=>
   have h0:=hf 0 ⟨"Key",ti,0,false,"","",0⟩ rfl
   have h1:=hf 1 ⟨"Val",ti,1,false,"","",8⟩ rfl
   have h2:=hf 2 ⟨"Dead",tb,2,false,"","",16⟩ rfl
   dsimp only at h0 h1 h2
   rw[hci]at h0 h1
   rw[hcb]at h2
   obtain⟨k,e0,_⟩:=MI hi h0
   obtain⟨v,e1,_⟩:=MI hi h1
   obtain⟨d,e2,_⟩:=DataW.trod_bool hb h2
   simp at e0 e1 e2
   subst e0 e1 e2
   exact⟨⟨k,v,d⟩,rfl,trivial⟩
end
end
section
open Go.ChangeShapes Go.WideShapes Go.ChangeAt
theorem own:ownKnob prog.godebug=none:=by kernel_rfl
theorem laidOut:laidOutB prog=true:=by kernel_rfl
end
section
open Go.ChangeShapes Go.WideShapes Go.ChangeAt
theorem Gv {H:Type} {enc:TypeId × Value->H} {w:World} (fuel:Nat) (cs:List Value) (y:DataW H × List MemPlace) (h:Ma enc prog w 0 (fun _=>true) true fuel 143 cs=some y):
  ∃(A:Option Addr) (l:List Ent) (c:Nat),cs=[.slice A l.length c]/\l.length<=c/\c<=maxLen/\Sl w A (l.flatMap Ent.cells):=by
 have hv:∃a len cap,cs=[.slice a len cap]:=by
  rcases Go.Deep.open_slice underlying143 h with⟨h1,_⟩|⟨a,len,cap,_,_,_,_,h1,_⟩
  ·exact⟨_,_,_,h1⟩
  ·exact⟨_,_,_,h1⟩
 obtain⟨a,len,cap,rfl⟩:=hv
 obtain⟨A,l,c,h1,h2,h3,h4,_⟩:=iM (v:= .slice a len cap) Ent.cells (fun _=>True) Ent.cells_length (by omega) underlying143 (by kernel_rfl)
  (fun fuel cs y h=>Ii underlying183 underlying2 underlying4 (by kernel_rfl) (by kernel_rfl) (by kernel_rfl) fuel cs y h) ⟨_,_,_,rfl⟩ h
 exact⟨A,l,c,by rw[h1],h2,h3,h4⟩
theorem Iq {H:Type} {enc:TypeId × Value->H} {w:World} (fuel:Nat) (cs:List Value) (y:DataW H × List MemPlace) (h:Ma enc prog w 0 (fun _=>true) true fuel 145 cs=some y):
  ∃r:Rm,cs=[r.v]/\r.Ok w:=by
 obtain⟨xs,n,_,_,hlen,hxl,hg⟩:=Np underlying145 h
 rw[show prog.cellsOf 145=1 from by kernel_rfl]at hlen
 match cs,hlen with
 |[c0],_=>
  match xs,hxl with
  |[x0],_=>
   have h0:Ma enc prog w 0 (fun _=>true) true n 143 (Mj (prog.cellsOf 143) (L9 0 [c0]))=some x0:=hg 0 _ rfl
   rw[show prog.cellsOf 143=1 from by kernel_rfl]at h0
   obtain⟨A,l,c,e,h2,h3,h4⟩:=Gv _ _ _ h0
   simp at e
   subst e
   exact⟨⟨l,A,c⟩,rfl,h4,h2,h3⟩
end
section
open Go.ChangeShapes Go.WideShapes Go.ChangeAt
theorem wJ {n:Int} (h:(Lit.int .u64 n).wf=true):0<=n/\n<=18446744073709551615:=by
 simp only[Lit.wf,Bool.and_eq_true,decide_eq_true_eq]at h
 exact h
end
section
open Go.ChangeShapes Go.WideShapes Go.ChangeAt
theorem Dc {H:Type} {enc:TypeId × Value->H} {w:World} (fuel:Nat) (cs:List Value) (y:DataW H × List MemPlace) (h:Ma enc prog w 0 (fun _=>true) true fuel 24 cs=some y):
  ∃c:Cfg,cs=c.row.toList:=by
 obtain⟨xs,n,_,_,hlen,hxl,hg⟩:=Np underlying24 h
 rw[show prog.cellsOf 24=9 from by kernel_rfl]at hlen
 match cs,hlen with
 |[c0,c1,c2,c3,c4,c5,c6,c7,c8],_=>
  match xs,hxl with
  |[x0,x1,x2,x3,x4,x5,x6,x7,x8],_=>
   have h0:Ma enc prog w 0 (fun _=>true) true n 5 (Mj (prog.cellsOf 5) (L9 0 [c0,c1,c2,c3,c4,c5,c6,c7,c8]))=some x0:=hg 0 _ rfl
   rw[show prog.cellsOf 5=1 from by kernel_rfl]at h0
   obtain⟨n0,e0,_,_⟩:=MI underlying5 h0
   have h1:Ma enc prog w 0 (fun _=>true) true n 3 (Mj (prog.cellsOf 3) (L9 1 [c0,c1,c2,c3,c4,c5,c6,c7,c8]))=some x1:=hg 1 _ rfl
   rw[show prog.cellsOf 3=1 from by kernel_rfl]at h1
   obtain⟨n1,e1,_,_⟩:=MI underlying3 h1
   have h2:Ma enc prog w 0 (fun _=>true) true n 3 (Mj (prog.cellsOf 3) (L9 2 [c0,c1,c2,c3,c4,c5,c6,c7,c8]))=some x2:=hg 2 _ rfl
   rw[show prog.cellsOf 3=1 from by kernel_rfl]at h2
   obtain⟨n2,e2,_,_⟩:=MI underlying3 h2
   have h3:Ma enc prog w 0 (fun _=>true) true n 3 (Mj (prog.cellsOf 3) (L9 3 [c0,c1,c2,c3,c4,c5,c6,c7,c8]))=some x3:=hg 3 _ rfl
   rw[show prog.cellsOf 3=1 from by kernel_rfl]at h3
   obtain⟨n3,e3,_,_⟩:=MI underlying3 h3
   have h4:Ma enc prog w 0 (fun _=>true) true n 3 (Mj (prog.cellsOf 3) (L9 4 [c0,c1,c2,c3,c4,c5,c6,c7,c8]))=some x4:=hg 4 _ rfl
   rw[show prog.cellsOf 3=1 from by kernel_rfl]at h4
   obtain⟨n4,e4,_,_⟩:=MI underlying3 h4
   have h5:Ma enc prog w 0 (fun _=>true) true n 3 (Mj (prog.cellsOf 3) (L9 5 [c0,c1,c2,c3,c4,c5,c6,c7,c8]))=some x5:=hg 5 _ rfl
   rw[show prog.cellsOf 3=1 from by kernel_rfl]at h5
   obtain⟨n5,e5,_,_⟩:=MI underlying3 h5
   have h6:Ma enc prog w 0 (fun _=>true) true n 3 (Mj (prog.cellsOf 3) (L9 6 [c0,c1,c2,c3,c4,c5,c6,c7,c8]))=some x6:=hg 6 _ rfl
   rw[show prog.cellsOf 3=1 from by kernel_rfl]at h6
   obtain⟨n6,e6,_,_⟩:=MI underlying3 h6
   have h7:Ma enc prog w 0 (fun _=>true) true n 3 (Mj (prog.cellsOf 3) (L9 7 [c0,c1,c2,c3,c4,c5,c6,c7,c8]))=some x7:=hg 7 _ rfl
   rw[show prog.cellsOf 3=1 from by kernel_rfl]at h7
   obtain⟨n7,e7,_,_⟩:=MI underlying3 h7
   have h8:Ma enc prog w 0 (fun _=>true) true n 3 (Mj (prog.cellsOf 3) (L9 8 [c0,c1,c2,c3,c4,c5,c6,c7,c8]))=some x8:=hg 8 _ rfl
   rw[show prog.cellsOf 3=1 from by kernel_rfl]at h8
   obtain⟨n8,e8,_,_⟩:=MI underlying3 h8
   simp at e0 e1 e2 e3 e4 e5 e6 e7 e8
   subst e0 e1 e2 e3 e4 e5 e6 e7 e8
   exact⟨⟨n0,n1,n2,n3,n4,n5,n6,n7,n8⟩,rfl⟩
theorem Dt {H:Type} {enc:TypeId × Value->H} {w:World} (fuel:Nat) (cs:List Value) (y:DataW H × List MemPlace) (h:Ma enc prog w 0 (fun _=>true) true fuel 38 cs=some y):
  ∃(B:Option Addr) (Rs:List Rm) (c:Nat) (n:Int),cs=[.slice B Rs.length c,.int .u64 n]/\RunsAt w B Rs/\0<=n/\n<=18446744073709551615:=by
 obtain⟨xs,m,_,_,hlen,hxl,hg⟩:=Np underlying38 h
 rw[show prog.cellsOf 38=2 from by kernel_rfl]at hlen
 match cs,hlen with
 |[c0,c1],_=>
  match xs,hxl with
  |[x0,x1],_=>
   have h0:Ma enc prog w 0 (fun _=>true) true m 36 (Mj (prog.cellsOf 36) (L9 0 [c0,c1]))=some x0:=hg 0 _ rfl
   have h1:Ma enc prog w 0 (fun _=>true) true m 22 (Mj (prog.cellsOf 22) (L9 1 [c0,c1]))=some x1:=hg 1 _ rfl
   rw[show prog.cellsOf 36=1 from by kernel_rfl]at h0
   rw[show prog.cellsOf 22=1 from by kernel_rfl]at h1
   obtain⟨n,e1,_,f1⟩:=MI underlying22 h1
   have hv:∃a len cap,Mj 1 (L9 0 [c0,c1])=[.slice a len cap]:=by
    rcases Go.Deep.open_slice underlying36 h0 with⟨h1,_⟩|⟨a,len,cap,_,_,_,_,h1,_⟩
    ·exact⟨_,_,_,h1⟩
    ·exact⟨_,_,_,h1⟩
   obtain⟨a,len,cap,e0⟩:=hv
   simp at e0 e1
   subst e0 e1
   obtain⟨B,Rs,c,h2,h3,h4,h5,h6⟩:=iM (v:= .slice a len cap) (s:=1) (fun r:Rm=>[r.v]) (fun r=>r.Ok w) (fun _=>rfl) (by omega) underlying36 (by kernel_rfl) (fun fuel cs y h=>Iq fuel cs y h) ⟨_,_,_,rfl⟩ h0
   have hm:Rs.flatMap (fun r=>[r.v])=Rs.map Rm.v:=by
    clear h2 h3 h5 h6
    induction Rs with
    |nil=>rfl
    |cons r Rs ih=>rw[NE,ih];rfl
   rw[hm]at h5
   obtain⟨g1,g2⟩:=wJ f1
   exact⟨B,Rs,c,n,by rw[h2],⟨h5,h6⟩,g1,g2⟩
end
section
open Go.ChangeShapes Go.WideShapes Go.ChangeAt
theorem mR {α:Type} (f:α->Value) (l:List α):l.flatMap (fun x=>[f x])=l.map f:=by
 induction l with
 |nil=>rfl
 |cons x l ih=>rw[NE,ih];rfl
theorem JR (l:List Value) (a b:Nat) (h:l.length=a+b):l=Mj a (L9 0 l)++Mj b (L9 a l):=by
 rw[List.drop_zero,LF (l:=L9 a l) (by rw[List.length_drop,h];omega),List.take_append_drop]
theorem Ja (l:List Value) (o a:Nat):L9 o l=Mj a (L9 o l)++L9 (o+a) l:=by
 rw[<-List.drop_drop,List.take_append_drop]
theorem KV (l:List Value) (h:l.length=46):l=Mj 1 (L9 0 l)++Mj 1 (L9 1 l)++Mj 15 (L9 2 l)++Mj 18 (L9 17 l)++Mj 11 (L9 35 l):=by
 have e1:L9 0 l=Mj 1 (L9 0 l)++L9 1 l:=Ja l 0 1
 have e2:L9 1 l=Mj 1 (L9 1 l)++L9 2 l:=Ja l 1 1
 have e3:L9 2 l=Mj 15 (L9 2 l)++L9 17 l:=Ja l 2 15
 have e4:L9 17 l=Mj 18 (L9 17 l)++L9 35 l:=Ja l 17 18
 have e5:Mj 11 (L9 35 l)=L9 35 l:=LF (by rw[List.length_drop,h];decide)
 rw[e5,Ny,Ny,Ny,<-e4,<-e3,<-e2,<-e1,List.drop_zero]
theorem rF {H:Type} {enc:TypeId × Value->H} {w:World} (fuel:Nat) (cs:List Value) (y:DataW H × List MemPlace) (h:Ma enc prog w 0 (fun _=>true) true fuel 26 cs=some y):
  ∃(A:Option Addr) (l:List Int) (c:Nat),cs=[.slice A l.length c]/\Sl w A (l.map iv)/\∀x∈l,True:=by
 have hv:∃a len cap,cs=[.slice a len cap]:=by
  rcases Go.Deep.open_slice underlying26 h with⟨h1,_⟩|⟨a,len,cap,_,_,_,_,h1,_⟩
  ·exact⟨_,_,_,h1⟩
  ·exact⟨_,_,_,h1⟩
 obtain⟨a,len,cap,rfl⟩:=hv
 obtain⟨A,l,c,h1,_,_,h4,h5⟩:=iM (v:= .slice a len cap) (s:=1) (fun x:Int=>[iv x]) (fun x=>True) (fun _=>rfl) (by omega) underlying26 (by kernel_rfl)
  (fun fuel cs y h=>by
   obtain⟨n,e,_,f⟩:=MI underlying2 h
   exact⟨n,by rw[e];rfl,trivial⟩) ⟨_,_,_,rfl⟩ h
 rw[mR]at h4
 exact⟨A,l,c,by rw[h1],h4,h5⟩
theorem yw {H:Type} {enc:TypeId × Value->H} {w:World} (fuel:Nat) (cs:List Value) (y:DataW H × List MemPlace) (h:Ma enc prog w 0 (fun _=>true) true fuel 27 cs=some y):
  ∃(A:Option Addr) (l:List Int) (c:Nat),cs=[.slice A l.length c]/\Sl w A (l.map iv)/\∀x∈l,True:=by
 have hv:∃a len cap,cs=[.slice a len cap]:=by
  rcases Go.Deep.open_slice underlying27 h with⟨h1,_⟩|⟨a,len,cap,_,_,_,_,h1,_⟩
  ·exact⟨_,_,_,h1⟩
  ·exact⟨_,_,_,h1⟩
 obtain⟨a,len,cap,rfl⟩:=hv
 obtain⟨A,l,c,h1,_,_,h4,h5⟩:=iM (v:= .slice a len cap) (s:=1) (fun x:Int=>[iv x]) (fun x=>True) (fun _=>rfl) (by omega) underlying27 (by kernel_rfl)
  (fun fuel cs y h=>by
   obtain⟨n,e,_,f⟩:=MI underlying3 h
   exact⟨n,by rw[e];rfl,trivial⟩) ⟨_,_,_,rfl⟩ h
 rw[mR]at h4
 exact⟨A,l,c,by rw[h1],h4,h5⟩
theorem Hq {H:Type} {enc:TypeId × Value->H} {w:World} (fuel:Nat) (cs:List Value) (y:DataW H × List MemPlace) (h:Ma enc prog w 0 (fun _=>true) true fuel 25 cs=some y):
  ∃(A:Option Addr) (l:List Nat) (c:Nat),cs=[.slice A l.length c]/\Sl w A (l.map uw)/\∀x∈l,x< 18446744073709551616:=by
 have hv:∃a len cap,cs=[.slice a len cap]:=by
  rcases Go.Deep.open_slice underlying25 h with⟨h1,_⟩|⟨a,len,cap,_,_,_,_,h1,_⟩
  ·exact⟨_,_,_,h1⟩
  ·exact⟨_,_,_,h1⟩
 obtain⟨a,len,cap,rfl⟩:=hv
 obtain⟨A,l,c,h1,_,_,h4,h5⟩:=iM (v:= .slice a len cap) (s:=1) (fun x:Nat=>[uw x]) (fun x=>x< 18446744073709551616) (fun _=>rfl) (by omega) underlying25 (by kernel_rfl)
  (fun fuel cs y h=>by
   obtain⟨n,e,_,f⟩:=MI underlying22 h
   exact⟨n.toNat,by rw[e];show[Value.int .u64 n]=[Value.int .u64 (n.toNat:Int)];rw[Int.toNat_of_nonneg (wJ f).1],by have:=wJ f;omega⟩) ⟨_,_,_,rfl⟩ h
 rw[mR]at h4
 exact⟨A,l,c,by rw[h1],h4,h5⟩
theorem Dp {H:Type} {enc:TypeId × Value->H} {w:World} (fuel:Nat) (cs:List Value) (y:DataW H × List MemPlace) (h:Ma enc prog w 0 (fun _=>true) true fuel 29 cs=some y):
  ∃s:Ss,cs=s.row.toList/\SsAt w s/\∀x∈s.ws,x< 18446744073709551616:=by
 obtain⟨xs,m,_,_,hlen,hxl,hg⟩:=Np underlying29 h
 rw[show prog.cellsOf 29=6 from by kernel_rfl]at hlen
 match xs,hxl with
 |[x0,x1,x2,x3,x4,x5],_=>
  have h0:Ma enc prog w 0 (fun _=>true) true m 3 (Mj (prog.cellsOf 3) (L9 0 cs))=some x0:=hg 0 _ rfl
  rw[show prog.cellsOf 3=1 from by kernel_rfl]at h0
  have h1:Ma enc prog w 0 (fun _=>true) true m 25 (Mj (prog.cellsOf 25) (L9 1 cs))=some x1:=hg 1 _ rfl
  rw[show prog.cellsOf 25=1 from by kernel_rfl]at h1
  have h2:Ma enc prog w 0 (fun _=>true) true m 26 (Mj (prog.cellsOf 26) (L9 2 cs))=some x2:=hg 2 _ rfl
  rw[show prog.cellsOf 26=1 from by kernel_rfl]at h2
  have h3:Ma enc prog w 0 (fun _=>true) true m 26 (Mj (prog.cellsOf 26) (L9 3 cs))=some x3:=hg 3 _ rfl
  rw[show prog.cellsOf 26=1 from by kernel_rfl]at h3
  have h4:Ma enc prog w 0 (fun _=>true) true m 27 (Mj (prog.cellsOf 27) (L9 4 cs))=some x4:=hg 4 _ rfl
  rw[show prog.cellsOf 27=1 from by kernel_rfl]at h4
  have h5:Ma enc prog w 0 (fun _=>true) true m 22 (Mj (prog.cellsOf 22) (L9 5 cs))=some x5:=hg 5 _ rfl
  rw[show prog.cellsOf 22=1 from by kernel_rfl]at h5
  match cs,hlen with
  |[c0,c1,c2,c3,c4,c5],_=>
   obtain⟨n0,e0,_,_⟩:=MI underlying3 h0
   obtain⟨A1,l1,k1,e1,s1,g1⟩:=Hq _ _ _ h1
   obtain⟨A2,l2,k2,e2,s2,_⟩:=rF _ _ _ h2
   obtain⟨A3,l3,k3,e3,s3,_⟩:=rF _ _ _ h3
   obtain⟨A4,l4,k4,e4,s4,_⟩:=yw _ _ _ h4
   obtain⟨n5,e5,_,_⟩:=MI underlying22 h5
   simp at e0 e1 e2 e3 e4 e5
   subst e0 e1 e2 e3 e4 e5
   exact⟨⟨n0,l1,l2,l3,l4,n5,A1,A2,A3,A4,k1,k2,k3,k4⟩,rfl,⟨s1,s2,s3,s4⟩,g1⟩
theorem Dj {H:Type} {enc:TypeId × Value->H} {w:World} (fuel:Nat) (cs:List Value) (y:DataW H × List MemPlace) (h:Ma enc prog w 0 (fun _=>true) true fuel 31 cs=some y):
  ∃(c:Cfg) (s:Ss),cs=c.row.toList++s.row.toList/\SsAt w s/\∀x∈s.ws,x< 18446744073709551616:=by
 obtain⟨xs,m,_,_,hlen,hxl,hg⟩:=Np underlying31 h
 rw[show prog.cellsOf 31=15 from by kernel_rfl]at hlen
 match xs,hxl with
 |[x0,x1],_=>
  have h0:Ma enc prog w 0 (fun _=>true) true m 24 (Mj (prog.cellsOf 24) (L9 0 cs))=some x0:=hg 0 _ rfl
  rw[show prog.cellsOf 24=9 from by kernel_rfl]at h0
  have h1:Ma enc prog w 0 (fun _=>true) true m 29 (Mj (prog.cellsOf 29) (L9 9 cs))=some x1:=hg 1 _ rfl
  rw[show prog.cellsOf 29=6 from by kernel_rfl]at h1
  obtain⟨c,e0⟩:=Dc _ _ _ h0
  obtain⟨s,e1,h2,h3⟩:=Dp _ _ _ h1
  exact⟨c,s,by rw[JR cs 9 6 hlen,e0,e1],h2,h3⟩
theorem Ep {H:Type} {enc:TypeId × Value->H} {w:World} (fuel:Nat) (cs:List Value) (y:DataW H × List MemPlace) (h:Ma enc prog w 0 (fun _=>true) true fuel 33 cs=some y):
  ∃x:Ix,cs=x.row.toList/\IxAt w x:=by
 obtain⟨xs,m,_,_,hlen,hxl,hg⟩:=Np underlying33 h
 rw[show prog.cellsOf 33=3 from by kernel_rfl]at hlen
 match xs,hxl with
 |[x0,x1,x2],_=>
  have h0:Ma enc prog w 0 (fun _=>true) true m 3 (Mj (prog.cellsOf 3) (L9 0 cs))=some x0:=hg 0 _ rfl
  rw[show prog.cellsOf 3=1 from by kernel_rfl]at h0
  have h1:Ma enc prog w 0 (fun _=>true) true m 26 (Mj (prog.cellsOf 26) (L9 1 cs))=some x1:=hg 1 _ rfl
  rw[show prog.cellsOf 26=1 from by kernel_rfl]at h1
  have h2:Ma enc prog w 0 (fun _=>true) true m 27 (Mj (prog.cellsOf 27) (L9 2 cs))=some x2:=hg 2 _ rfl
  rw[show prog.cellsOf 27=1 from by kernel_rfl]at h2
  match cs,hlen with
  |[c0,c1,c2],_=>
   obtain⟨n0,e0,_,_⟩:=MI underlying3 h0
   obtain⟨A1,l1,k1,e1,s1,_⟩:=rF _ _ _ h1
   obtain⟨A2,l2,k2,e2,s2,_⟩:=yw _ _ _ h2
   simp at e0 e1 e2
   subst e0 e1 e2
   exact⟨⟨n0,l1,l2,A1,A2,k1,k2⟩,rfl,⟨s1,s2⟩⟩
theorem Iy {H:Type} {enc:TypeId × Value->H} {w:World} (fuel:Nat) (cs:List Value) (y:DataW H × List MemPlace) (h:Ma enc prog w 0 (fun _=>true) true fuel 35 cs=some y):
  ∃(c:Cfg) (s:Ss) (x:Ix),cs=c.row.toList++s.row.toList++x.row.toList/\SsAt w s/\IxAt w x/\∀x∈s.ws,x< 18446744073709551616:=by
 obtain⟨xs,m,_,_,hlen,hxl,hg⟩:=Np underlying35 h
 rw[show prog.cellsOf 35=18 from by kernel_rfl]at hlen
 match xs,hxl with
 |[x0,x1],_=>
  have h0:Ma enc prog w 0 (fun _=>true) true m 31 (Mj (prog.cellsOf 31) (L9 0 cs))=some x0:=hg 0 _ rfl
  rw[show prog.cellsOf 31=15 from by kernel_rfl]at h0
  have h1:Ma enc prog w 0 (fun _=>true) true m 33 (Mj (prog.cellsOf 33) (L9 15 cs))=some x1:=hg 1 _ rfl
  rw[show prog.cellsOf 33=3 from by kernel_rfl]at h1
  obtain⟨c,s,e0,h2,h3⟩:=Dj _ _ _ h0
  obtain⟨x,e1,h4⟩:=Ep _ _ _ h1
  exact⟨c,s,x,by rw[JR cs 15 3 hlen,e0,e1],h2,h4,h3⟩
theorem Ad {H:Type} {enc:TypeId × Value->H} {w:World} (fuel:Nat) (cs:List Value) (y:DataW H × List MemPlace) (h:Ma enc prog w 0 (fun _=>true) true fuel 40 cs=some y):
  ∃(c:Cfg) (B:Option Addr) (Rs:List Rm) (k:Nat) (n:Int),cs=c.row.toList++[.slice B Rs.length k,.int .u64 n]/\RunsAt w B Rs:=by
 obtain⟨xs,m,_,_,hlen,hxl,hg⟩:=Np underlying40 h
 rw[show prog.cellsOf 40=11 from by kernel_rfl]at hlen
 match xs,hxl with
 |[x0,x1],_=>
  have h0:Ma enc prog w 0 (fun _=>true) true m 24 (Mj (prog.cellsOf 24) (L9 0 cs))=some x0:=hg 0 _ rfl
  rw[show prog.cellsOf 24=9 from by kernel_rfl]at h0
  have h1:Ma enc prog w 0 (fun _=>true) true m 38 (Mj (prog.cellsOf 38) (L9 9 cs))=some x1:=hg 1 _ rfl
  rw[show prog.cellsOf 38=2 from by kernel_rfl]at h1
  obtain⟨c,e0⟩:=Dc _ _ _ h0
  obtain⟨B,Rs,k,n,e1,hr,_,_⟩:=Dt _ _ _ h1
  exact⟨c,B,Rs,k,n,by rw[JR cs 9 2 hlen,e0,e1],hr⟩
theorem Jl {H:Type} {enc:TypeId × Value->H} {w:World} (fuel:Nat) (cs:List Value) (y:DataW H × List MemPlace) (h:Ma enc prog w 0 (fun _=>true) true fuel 42 cs=some y):
  ∃m:Mv,cs=m.row.toList/\MvAt w m/\(∀x∈m.ps.ws,x< 18446744073709551616)/\(∀x∈m.bs.ws,x< 18446744073709551616):=by
 obtain⟨xs,m,_,_,hlen,hxl,hg⟩:=Np underlying42 h
 rw[show prog.cellsOf 42=46 from by kernel_rfl]at hlen
 match xs,hxl with
 |[x0,x1,x2,x3,x4],_=>
  have h0:Ma enc prog w 0 (fun _=>true) true m 5 (Mj (prog.cellsOf 5) (L9 0 cs))=some x0:=hg 0 _ rfl
  rw[show prog.cellsOf 5=1 from by kernel_rfl]at h0
  have h1:Ma enc prog w 0 (fun _=>true) true m 22 (Mj (prog.cellsOf 22) (L9 1 cs))=some x1:=hg 1 _ rfl
  rw[show prog.cellsOf 22=1 from by kernel_rfl]at h1
  have h2:Ma enc prog w 0 (fun _=>true) true m 31 (Mj (prog.cellsOf 31) (L9 2 cs))=some x2:=hg 2 _ rfl
  rw[show prog.cellsOf 31=15 from by kernel_rfl]at h2
  have h3:Ma enc prog w 0 (fun _=>true) true m 35 (Mj (prog.cellsOf 35) (L9 17 cs))=some x3:=hg 3 _ rfl
  rw[show prog.cellsOf 35=18 from by kernel_rfl]at h3
  have h4:Ma enc prog w 0 (fun _=>true) true m 40 (Mj (prog.cellsOf 40) (L9 35 cs))=some x4:=hg 4 _ rfl
  rw[show prog.cellsOf 40=11 from by kernel_rfl]at h4
  obtain⟨n0,e0,_,_⟩:=MI underlying5 h0
  obtain⟨n1,e1,_,_⟩:=MI underlying22 h1
  obtain⟨c2,s2,e2,a2,g2⟩:=Dj _ _ _ h2
  obtain⟨c3,s3,x3,e3,a3,b3,g3⟩:=Iy _ _ _ h3
  obtain⟨c4,B,Rs,k,n,e4,hr⟩:=Ad _ _ _ h4
  exact⟨⟨n0,n1,c2,s2,c3,s3,x3,c4,B,Rs,k,n⟩,by rw[KV cs hlen,e0,e1,e2,e3,e4];rfl,⟨a2,a3,b3,hr⟩,g2,g3⟩
theorem Bl {H:Type} {enc:TypeId × Value->H} {w:World} (fuel:Nat) (cs:List Value) (y:DataW H × List MemPlace) (h:Ma enc prog w 0 (fun _=>true) true fuel 44 cs=some y):
  ∃c:Cu,cs=c.row.toList:=by
 obtain⟨xs,m,_,_,hlen,hxl,hg⟩:=Np underlying44 h
 rw[show prog.cellsOf 44=3 from by kernel_rfl]at hlen
 match xs,hxl with
 |[x0,x1,x2],_=>
  have h0:Ma enc prog w 0 (fun _=>true) true m 22 (Mj (prog.cellsOf 22) (L9 0 cs))=some x0:=hg 0 _ rfl
  rw[show prog.cellsOf 22=1 from by kernel_rfl]at h0
  have h1:Ma enc prog w 0 (fun _=>true) true m 4 (Mj (prog.cellsOf 4) (L9 1 cs))=some x1:=hg 1 _ rfl
  rw[show prog.cellsOf 4=1 from by kernel_rfl]at h1
  have h2:Ma enc prog w 0 (fun _=>true) true m 2 (Mj (prog.cellsOf 2) (L9 2 cs))=some x2:=hg 2 _ rfl
  rw[show prog.cellsOf 2=1 from by kernel_rfl]at h2
  match cs,hlen with
  |[c0,c1,c2],_=>
   obtain⟨n0,e0,_,_⟩:=MI underlying22 h0
   obtain⟨b,e1,_⟩:=DataW.trod_bool underlying4 h1
   obtain⟨n2,e2,_,_⟩:=MI underlying2 h2
   simp at e0 e1 e2
   subst e0 e1 e2
   exact⟨⟨n0,b,n2⟩,rfl⟩
theorem FH {H:Type} {enc:TypeId × Value->H} {w:World} {base:Nat} {v:Value} {d:DataW H} {p:List MemPlace} (hok:Value.okWide prog w .any base 42 v)
  (h:DataW.Trod enc prog w 0 (fun _=>true) true 42 v d p):∃m:Mv,v= .agg m.row/\MvAt w m/\(∀x∈m.ps.ws,x< 18446744073709551616)/\(∀x∈m.bs.ws,x< 18446744073709551616):=by
 obtain⟨cs,rfl,_⟩:=okWide_struct underlying42 hok
 obtain⟨fuel,hf⟩:=h
 obtain⟨m,e,r⟩:=Jl _ _ _ hf
 obtain⟨l⟩:=cs
 have e':l=m.row.toList:=e
 subst e'
 exact⟨m,rfl,r⟩
theorem yL {H:Type} {enc:TypeId × Value->H} {w:World} {base:Nat} {v:Value} {d:DataW H} {p:List MemPlace} (hok:Value.okWide prog w .any base 44 v)
  (h:DataW.Trod enc prog w 0 (fun _=>true) true 44 v d p):∃m:Cu,v= .agg m.row:=by
 obtain⟨cs,rfl,_⟩:=okWide_struct underlying44 hok
 obtain⟨fuel,hf⟩:=h
 obtain⟨m,e⟩:=Bl _ _ _ hf
 obtain⟨l⟩:=cs
 have e':l=m.row.toList:=e
 subst e'
 exact⟨m,rfl⟩
end
section
open Go.ChangeShapes Go.WideShapes Go.ChangeAt
theorem ny (os:Os) (started:os.Started) (H:Type) (enc:TypeId × Value->H):
  ReturnsInHanded {} checked os 4 .any (Rows.cursorTellsSpec.pre6 enc prog Tryz.f4 Rows.cursorTellsRow.domain false)
   (Rows.cursorTellsSpec.post enc prog Tryz.f4 false true false false):=by
 refine returnsInHanded_of_change (C:=checked) own started (by kernel_rfl) func4
  (ChangeSpec.witness6 (enc:=enc) (C:=checked) false ⟨#[],#[.agg (Mv.row ⟨0,0,aG,fP,aG,fP,nN,aG,none,[],0,0⟩),.agg #[.int .u64 0,.bool false,.int .i64 0],.int .i64 0],[]⟩ 8 (by kernel_rfl) (by kernel_rfl) (by kernel_rfl) (by kernel_rfl)) ?_
 intro W base args ds gs before hval0 hW _ _
 have hval:∀(j:Nat) t v,Tryz.f4.params[j]?=some t->args[j]?=some v->Value.okWide prog W .any base t v:=hval0
 have hW':=hW
 obtain⟨p,q,hA0,hV,rfl,hfz,hnd⟩:=hW
 have hA:DataW.TrodAll enc prog W 0 (fun _=>true) true Tryz.f4.params.toList args.toList ds p:=hA0
 rw[params4]at hA hval
 obtain⟨v0,v1,v2,d0,d1,d2,p0,p1,p2,rfl,rfl,rfl,h0,h1,h2⟩:=trodAll_three hA
 obtain⟨rfl,rfl⟩:=trodVars_none hV
 obtain⟨m,rfl,hs,hw1,hw2⟩:=FH (hval 0 42 v0 rfl rfl) h0
 obtain⟨cu,rfl⟩:=yL (hval 1 44 v1 rfl rfl) h1
 obtain⟨key,rfl⟩:=okWide_int underlying2 (hval 2 2 v2 rfl rfl)
 refine(qE m cu key W hs hw1 hw2).mono fun e W' ⟨he,hb⟩=>?_
 subst he
 exact⟨_,rfl,GD (tb:=4) laidOut (by intro t ht;rw[params4]at ht;simp at ht;rcases ht with rfl|rfl|rfl <;> exact⟨by kernel_rfl,of_decide_eq_true (by kernel_rfl)⟩) rfl hW' rfl rfl rfl (by kernel_rfl) underlying4 hb⟩
theorem cursorTells_holds:Rows.CursorTellsSaid:=
 OpenClaim.holds_of_wide 4 Tryz.f4 rfl rfl rfl rfl rfl rfl rfl ⟨rfl,rfl,rfl,rfl,rfl⟩ rfl rfl rfl rfl rfl (by kernel_rfl) func4 (by kernel_rfl)
  (of_decide_eq_true (by kernel_rfl)) (by unfold Func.isWrapper;first|(rw[if_pos (by decide+kernel)];kernel_rfl)|(rw[if_neg (by decide+kernel)];exact⟨rfl,rfl⟩))
  (fun os started H enc _=>ny os started H enc)
end
end Go.Proofs.YtpbmbjjfdpkhbaaGreat
