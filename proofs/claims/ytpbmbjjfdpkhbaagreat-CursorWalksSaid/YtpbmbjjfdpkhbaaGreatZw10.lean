/- part of the proof -/
import Derived.Test.YtpbmbjjfdpkhbaaGreatZw9
import Derived.Deep.LoopGhost
import Derived.Deep.CutBlock
import Derived.Deep.RegionWith
import Derived.Maps.OwnOps
import Derived.Test.YtpbmbjjfdpkhbaaGreatZw4
import Derived.Test.YtpbmbjjfdpkhbaaGreatZw2
import Derived.Test.YtpbmbjjfdpkhbaaGreatZw8
import Derived.Test.YtpbmbjjfdpkhbaaGreatZw1
import Derived.Test.YtpbmbjjfdpkhbaaGreatZw3
import Derived.Test.YtpbmbjjfdpkhbaaGreatZw7
import Derived.Test.YtpbmbjjfdpkhbaaGreatZw5
import Derived.Deep.MidRow
import Derived.Deep.CutRange
namespace Go.Proofs.YtpbmbjjfdpkhbaaGreat
open Go Go.RowKit
set_option linter.all false
set_option maxRecDepth 100000
set_option maxHeartbeats 32000000
open Go.Proofs.Tryz
open Below renaming refl->KR
open Bool renaming false_ne_true->KP
open Go renaming all_oneCell_toArray->Ld,bodyPost_ret->KV,wpList_load_mid->Mi,wpOp_step->KT
open Go.IntWalk renaming i64_in->KU
open Go.Lib renaming hid->KO
open Go.World renaming ownsRow_nil->Li,size_alloc->KX
open List renaming getElem?_cons_succ->La,getElem?_cons_zero->Lb,getElem?_eq_none->Mg,getElem?_take->MB,getElem?_toArray->LG,getElem_mem->Lh
open Nat renaming le_refl->KS,le_succ->Mm,le_trans->KY,zero_le->K8
open Option.some renaming inj->KQ
theorem zo (B:Option Addr) (Rs:List Rm) (c:Nat) (n:Int) (w:World) (hB:RunsAt w B Rs) (hT:tot (aB Rs)<=1000000) (hl:Rs.length<=1000000):
  Calls prog 262 #[.agg #[.slice B Rs.length c,.int .u64 n]] w fun r w'=>r= .returned (.int .i64 (fE (aB Rs)))/\Below w.heap.size w w':=by
 have hb0:Below w.heap.size w (w.alloc (.cells #[.slice B Rs.length c,.int .u64 n] 38)):=(KR _ _).alloc (KS _) _
 by_cases hend:ib (aB Rs)=true
 ·have hEnd:=KO hend
  have hl17:Rs.length<=17:=by
   unfold ib at hend
   simp at hend
   exact hend.1
  go_enter func262,ntmps262
  go_upto_region 2 with fail
  go_cut [29]from 13 to 29 (fun v wx=>v= .bool false/\wx=w.alloc (.cells #[.slice B Rs.length c,.int .u64 n] 38))
  case first=>
   have g1:¬(17:Int)< (Rs.length:Int):=by omega
   by_cases h0:Rs.length=0
   ·have g2:¬(0:Int)< (Rs.length:Int):=by omega
    clear hend h0
    go_wp2
    go_meet
    exact⟨by simp,rfl⟩
   ·have g2:(0:Int)< (Rs.length:Int):=by omega
    obtain⟨j,hj⟩:∃j,Rs.length=j+1:=⟨Rs.length-1,by omega⟩
    obtain⟨b,off,rfl,hbl,cp⟩:=hB.sl.oneB hb0 j (by omega)
    have hne:(Rs[j]'(by omega)).l≠[]:=by
     unfold ib at hend
     rw[dB,hj]at hend
     simp at hend
     have h2:=hend.2
     rw[gH (by omega)]at h2
     exact h2
    obtain⟨r,hr⟩:∃r,Rs[j]'(by omega)=r:=⟨_,rfl⟩
    rw[hr]at cp hne
    obtain⟨l,A,cl⟩:=r
    have cp1:(w.alloc (.cells #[.slice (some ⟨b,off,none⟩) Rs.length c,.int .u64 n] 38)).cell? ⟨b,off+j,none⟩=some (.slice A l.length cl):=cp
    have hl0:0< l.length:=List.length_pos_iff.2 hne
    have hne2:¬l=[]:=hne
    have g4:IntKind.i64.wrap ((Rs.length:Int)-1)=(j:Int):=(KU _ (by omega)).trans (by omega)
    have g5:(0:Int)<=(j:Int):=by omega
    have g6:(j:Int)< (Rs.length:Int):=by omega
    clear cp hr hne hj hend h0
    go_wp2
    go_meet
    exact⟨by simp[hne2],rfl⟩
  case rest=>
  obtain⟨rfl,rfl⟩:=hcut
  have HB:=KO hB
  clear hB hend
  go_wp2
  go_loopw [4,33] (fun a i wr=>∃k m:Nat,k<=Rs.length/\i= .int .i64 k/\a= .int .i64 m/\Below w.heap.size w wr/\m<=1000000/\Hid (m=tot ((aB Rs).take k))/\Hid (iN (aB Rs) k=true)) (fun _ i _=>Rs.length-(intOf i).toNat)
  case atStart=>exact⟨0,0,K8 _,rfl,rfl,hb0,by omega,rfl,by show _=_;unfold iN;simp⟩
  case round=>
   obtain⟨k,m,hk,rfl,rfl,hb,hm,hd,hA⟩:=hrel
   by_cases hlt:k< Rs.length
   ·obtain⟨b,off,rfl,hbl,cp⟩:=HB.out.sl.oneB hb k hlt
    have hok:=(HB.out.ok _ (Lh hlt)).below hb
    have hs:=jk (rs:=aB Rs) (k:=k) (by simpa using hlt)
    have ha:=tH (aB Rs) k
    have hbad:=Gn (rs:=aB Rs) (k:=k) (by simpa using hlt)
    rw[gH hlt,dB]at ha hbad
    rw[gH hlt]at hs
    have hle:=iU (aB Rs) (k+1)
    obtain⟨r,hr⟩:∃r,Rs[k]'hlt=r:=⟨_,rfl⟩
    rw[hr]at cp hs hok ha hbad
    obtain⟨l,A,cl⟩:=r
    have cp1:wr.cell? ⟨b,off+k,none⟩=some (.slice A l.length cl):=cp
    dsimp only at hs ha hbad
    have hki:(0:Int)<=(k:Int):=by omega
    have hki2:(k:Int)< (Rs.length:Int):=by omega
    have hsum:m+l.length<=1000000:=by have:=hd.out;omega
    have hw:IntKind.i64.wrap ((m:Int)+(l.length:Int))=((m+l.length:Nat):Int):=(KU _ (by omega)).trans (by omega)
    have hw2:IntKind.i64.wrap ((Rs.length:Int)-1)=((Rs.length-1:Nat):Int):=(KU _ (by omega)).trans (by omega)
    obtain⟨E,hE⟩:∃E,bJ l=E:=⟨_,rfl⟩
    obtain⟨N,hN⟩:∃N,I7 l=N:=⟨_,rfl⟩
    have hNl:N<=l.length:=by
     rw[<-hN];unfold I7
     split
     ·exact gF l
     ·exact K8 _
    have hOK:jo Rs.length k l=(decide (E=0)&&(decide (l=[])||decide (up l.length=k))&&(decide (k+1≠Rs.length)||!gK l)):=by unfold jo;rw[hE]
    have hDead:E=0->(N=l.length↔gK l=false):=by rw[<-hE,<-hN];exact DF
    have hE16:E=0->l.length<=65536:=by rw[<-hE];exact fun h=>(kK h).2.2
    have HOKS:=KO hok.sl
    have HS:=KO hs
    have HA:=KO ha
    have HBAD:=KO hbad
    have HE:=KO hE
    have HN:=KO hN
    have HD:=KO hDead
    have HE16:=KO hE16
    have hbs:=hb.size
    have hll:l.length<=4611686018427387903:=by omega
    have hbX:Below wr.heap.size wr (wr.alloc (.cells #[.slice A l.length cl] 145)):=(KR _ _).alloc (KS _) _
    have hnb:wr.heap.size< (wr.alloc (.cells #[.slice A l.length cl] 145)).heap.size:=by simp
    have bX:=Blk.new wr 145 #[.slice A l.length cl]
    clear cp hr hs hle hok ha hbad hE hN hDead hE16
    obtain⟨U,hU⟩:∃U,up l.length=U:=⟨_,rfl⟩
    rw[hU]at hOK
    have HU:=KO hU
    have HOK:=KO hOK
    clear hU hOK
    obtain⟨J,hJ⟩:∃J:Nat,Rs.length-1=J:=⟨_,rfl⟩
    rw[hJ]at hw2
    by_cases hE0:E=0
    ·have hl6:=HE16.out hE0
     have HL6:=KO hl6
     clear hl6
     by_cases hl0':l.length=0
     ·have hnil:l=[]:=List.eq_nil_of_length_eq_zero hl0'
      have hNN:N=l.length:=by omega
      have hl00:¬(0:Int)< (l.length:Int):=by omega
      clear hl0'
      have hK:jo Rs.length k l=true:=by rw[HOK.out];rw[hE0,hnil];simp[gK]
      have HK:=KO hK
      clear hK
      clear hnil
      subst hE0
      subst hNN
      by_cases hkn:k=J
      ·subst hkn
       go_wp2_with fail
       refine(iL A l cl _ (HOKS.out.below hbX) hll).mono ?_
       unfold iT
       rw[HE.out,HN.out]
       rintro e w1 ⟨rfl,hb1⟩
       have hb2:=aa hbX hb1
       have c1:w1.cell? ⟨wr.heap.size,0,none⟩=some (.slice A l.length cl):=(bX.below hb1 bX.lt).cell 0
       go_wp2
       go_roundw
       case rel=>exact⟨k+1,m+l.length,by omega,by go_num,by go_num,aa hb hb2,hsum,by show _=_;rw[HS.out,hd.out],by show _=_;rw[HA.out,hA.out,HK.out];rfl⟩
       case measure=>simp[intOf];omega
      ·go_wp2_with fail
       refine(iL A l cl _ (HOKS.out.below hbX) hll).mono ?_
       unfold iT
       rw[HE.out,HN.out]
       rintro e w1 ⟨rfl,hb1⟩
       have hb2:=aa hbX hb1
       have c1:w1.cell? ⟨wr.heap.size,0,none⟩=some (.slice A l.length cl):=(bX.below hb1 bX.lt).cell 0
       go_wp2
       go_roundw
       case rel=>exact⟨k+1,m+l.length,by omega,by go_num,by go_num,aa hb hb2,hsum,by show _=_;rw[HS.out,hd.out],by show _=_;rw[HA.out,hA.out,HK.out];rfl⟩
       case measure=>simp[intOf];omega
     ·have hl0:0< l.length:=by omega
      have hne:¬l=[]:=List.length_pos_iff.1 hl0
      have HL0:=KO hl0
      clear hl0 hl0'
      by_cases hu:U=k
      ·by_cases hkn:k=J
       ·by_cases hNN:N=l.length
        ·have hK:jo Rs.length k l=true:=by rw[HOK.out];rw[hE0,(HD.out hE0).1 hNN];simp[hu]
         have HK:=KO hK
         clear hK
         subst hkn
         subst hu
         subst hNN
         subst hE0
         go_wp2_with fail
         refine(iL A l cl _ (HOKS.out.below hbX) hll).mono ?_
         unfold iT
         rw[HE.out,HN.out]
         rintro e w1 ⟨rfl,hb1⟩
         have hb2:=aa hbX hb1
         have c1:w1.cell? ⟨wr.heap.size,0,none⟩=some (.slice A l.length cl):=(bX.below hb1 bX.lt).cell 0
         go_wp2_with fail
         refine(lJ A l.length cl _ HL0.out HL6.out).mono ?_
         rw[HU.out]
         rintro e w2 ⟨rfl,hb3⟩
         have hb4:=aa hb2 hb3
         go_wp2
         go_roundw
         case rel=>exact⟨U+1,m+l.length,by omega,by go_num,by go_num,aa hb hb4,hsum,by show _=_;rw[HS.out,hd.out],by show _=_;rw[HA.out,hA.out,HK.out];rfl⟩
         case measure=>simp[intOf];omega
        ·have hdd:gK l=true:=by
          cases hx:gK l with
          |true=>rfl
          |false=>exact absurd ((HD.out hE0).2 hx) hNN
         have hK:jo Rs.length k l=false:=by rw[HOK.out];rw[hdd];simp;omega
         have HK:=KO hK
         clear hK
         clear hdd
         subst hkn
         subst hu
         subst hE0
         go_wp2_with fail
         refine(iL A l cl _ (HOKS.out.below hbX) hll).mono ?_
         unfold iT
         rw[HE.out,HN.out]
         rintro e w1 ⟨rfl,hb1⟩
         have hb2:=aa hbX hb1
         have c1:w1.cell? ⟨wr.heap.size,0,none⟩=some (.slice A l.length cl):=(bX.below hb1 bX.lt).cell 0
         go_wp2_with fail
         refine(lJ A l.length cl _ HL0.out HL6.out).mono ?_
         rw[HU.out]
         rintro e w2 ⟨rfl,hb3⟩
         have hb4:=aa hb2 hb3
         go_wp2
         go_ret
         exact⟨aJ (HBAD.out HK.out).symm,aa hb hb4⟩
       ·have hK:jo Rs.length k l=true:=by rw[HOK.out];rw[hE0];simp[hu];omega
        have HK:=KO hK
        clear hK
        subst hu
        subst hE0
        go_wp2_with fail
        refine(iL A l cl _ (HOKS.out.below hbX) hll).mono ?_
        unfold iT
        rw[HE.out,HN.out]
        rintro e w1 ⟨rfl,hb1⟩
        have hb2:=aa hbX hb1
        have c1:w1.cell? ⟨wr.heap.size,0,none⟩=some (.slice A l.length cl):=(bX.below hb1 bX.lt).cell 0
        go_wp2_with fail
        refine(lJ A l.length cl _ HL0.out HL6.out).mono ?_
        rw[HU.out]
        rintro e w2 ⟨rfl,hb3⟩
        have hb4:=aa hb2 hb3
        go_wp2
        go_roundw
        case rel=>exact⟨U+1,m+l.length,by omega,by go_num,by go_num,aa hb hb4,hsum,by show _=_;rw[HS.out,hd.out],by show _=_;rw[HA.out,hA.out,HK.out];rfl⟩
        case measure=>simp[intOf];omega
      ·have hK:jo Rs.length k l=false:=by rw[HOK.out];rw[hE0];simp[hu,hne]
       have HK:=KO hK
       clear hK
       subst hE0
       go_wp2_with fail
       refine(iL A l cl _ (HOKS.out.below hbX) hll).mono ?_
       unfold iT
       rw[HE.out,HN.out]
       rintro e w1 ⟨rfl,hb1⟩
       have hb2:=aa hbX hb1
       have c1:w1.cell? ⟨wr.heap.size,0,none⟩=some (.slice A l.length cl):=(bX.below hb1 bX.lt).cell 0
       go_wp2_with fail
       refine(lJ A l.length cl _ HL0.out HL6.out).mono ?_
       rw[HU.out]
       rintro e w2 ⟨rfl,hb3⟩
       have hb4:=aa hb2 hb3
       go_wp2
       go_ret
       exact⟨aJ (HBAD.out HK.out).symm,aa hb hb4⟩
    ·have hK:jo Rs.length k l=false:=by rw[HOK.out];simp[hE0]
     have HK:=KO hK
     clear hK
     go_wp2_with fail
     refine(iL A l cl _ (HOKS.out.below hbX) hll).mono ?_
     unfold iT
     rw[HE.out,HN.out]
     rintro e w1 ⟨rfl,hb1⟩
     have hb2:=aa hbX hb1
     have c1:w1.cell? ⟨wr.heap.size,0,none⟩=some (.slice A l.length cl):=(bX.below hb1 bX.lt).cell 0
     go_wp2
     go_ret
     exact⟨aJ (HBAD.out HK.out).symm,aa hb hb2⟩
   ·have hkn:k=Rs.length:=by omega
    have hf:m=tot (aB Rs):=by rw[hd.out,List.take_of_length_le (by simp;omega)]
    have hall:iN (aB Rs) (aB Rs).length=true:=by rw[dB,<-hkn];exact hA.out
    have hfin:=Fe hEnd.out hall
    rw[<-hf]at hfin
    have HF:=KO hfin
    clear hfin hall hf hkn
    by_cases hbig:65536< m
    ·have g1:(65536:Int)< (m:Int):=by omega
     go_wp2
     go_ret
     exact⟨aJ (by rw[HF.out,if_pos hbig]),hb⟩
    ·have g1:¬(65536:Int)< (m:Int):=by omega
     go_wp2
     go_ret
     exact⟨aJ (by rw[HF.out,if_neg hbig]),hb⟩
 ·have hE8:fE (aB Rs)=8:=EU (by simpa using hend)
  have HE8:=KO hE8
  clear hE8
  by_cases h17:17< Rs.length
  ·have g1:(17:Int)< (Rs.length:Int):=by omega
   clear hend
   go_enter func262,ntmps262
   go_wp2
   go_ret
   exact⟨aJ HE8.out.symm,hb0⟩
  ·have g1:¬(17:Int)< (Rs.length:Int):=by omega
   have h0:Rs.length≠0:=by
    intro h0
    apply hend
    unfold ib
    rw[dB,h0];rfl
   have g2:(0:Int)< (Rs.length:Int):=by omega
   obtain⟨j,hj⟩:∃j,Rs.length=j+1:=⟨Rs.length-1,by omega⟩
   obtain⟨b,off,rfl,hbl,cp⟩:=hB.sl.oneB hb0 j (by omega)
   have hne:(Rs[j]'(by omega)).l=[]:=by
    refine Classical.byContradiction fun hx=>hend ?_
    unfold ib
    rw[dB,hj,Nat.add_sub_cancel,gH (by omega)]
    simp[hx]
    omega
   obtain⟨r,hr⟩:∃r,Rs[j]'(by omega)=r:=⟨_,rfl⟩
   rw[hr]at cp hne
   obtain⟨l,A,cl⟩:=r
   have hnl:l=[]:=hne
   subst hnl
   have cp1:(w.alloc (.cells #[.slice (some ⟨b,off,none⟩) Rs.length c,.int .u64 n] 38)).cell? ⟨b,off+j,none⟩=some (.slice A 0 cl):=cp
   have g4:IntKind.i64.wrap ((Rs.length:Int)-1)=(j:Int):=(KU _ (by omega)).trans (by omega)
   have g5:(0:Int)<=(j:Int):=by omega
   have g6:(j:Int)< (Rs.length:Int):=by omega
   clear cp hr hne hj hend
   go_enter func262,ntmps262
   go_wp2
   go_ret
   exact⟨aJ HE8.out.symm,hb0⟩
theorem xM (rs:Lv):fE rs=if kg rs=true then 0 else 8:=rfl
theorem Fs {rs:Lv} (h:May rs):RisE (oU rs):=xA (qB fun x hx=>by
 obtain⟨l,hl,rfl⟩:=List.mem_map.1 hx
 obtain⟨j,_,e⟩:=rU hl
 rw[<-e]
 exact BS (h.chk j))
theorem Hf {rs:Lv} (h:¬fE rs=0):jK rs=[]:=by unfold jK;rw[if_neg h]
theorem Jb {Rs:List Rm} (h:May (aB Rs)):(∀r∈Rs,r.l.length<=65536)/\Rs.length<=17/\(Rs.map (fun r=>r.l.length)).sum<=65536:=by
 have h1:=h.size
 have h2:=h.len
 rw[dB]at h2
 have h3:(Rs.map (fun r=>r.l.length)).sum=tot (aB Rs):=by unfold tot aB;rw[List.map_map];rfl
 refine⟨fun r hr=>?_,h2,by omega⟩
 have h4:=Az (List.mem_map.2 ⟨r,hr,rfl⟩:r.l.length∈Rs.map (fun r=>r.l.length))
 omega
theorem rR (B:Option Addr) (Rs:List Rm) (c:Nat) (n:Int) (w:World) (hB:RunsAt w B Rs) (hT:tot (aB Rs)<=1000000) (hl:Rs.length<=1000000):
  Calls prog 260 #[.agg #[.slice B Rs.length c,.int .u64 n]] w (kN (jK (aB Rs)) (fE (aB Rs)) w):=by
 obtain⟨W0,hW0⟩:∃W0,w.alloc (.cells #[.slice B Rs.length c,.int .u64 n] 38)=W0:=⟨_,rfl⟩
 have hb0:Below w.heap.size w W0:=by rw[<-hW0];exact(KR _ _).alloc (KS _) _
 have b20:Blk W0 w.heap.size 38 #[.slice B Rs.length c,.int .u64 n]:=by rw[<-hW0];exact Blk.new _ _ _
 have HW0:=KO hW0
 have HB:=KO (hB.below hb0)
 clear hW0 hB
 have hck:=fun W (hW:Below W0.heap.size W0 W)=>zo B Rs c n W (HB.out.below hW) hT hl
 obtain⟨E,hE⟩:∃E,fE (aB Rs)=E:=⟨_,rfl⟩
 obtain⟨P,hP⟩:∃P,jK (aB Rs)=P:=⟨_,rfl⟩
 have hp0:E≠0->P=[]:=fun h=>by rw[<-hP];unfold jK;rw[if_neg (by rw[hE];exact h)]
 rw[hE]at hck
 rw[hE,hP]
 have HCK:=KO hck
 have HE:=KO hE
 have HP:=KO hP
 clear hck hE hP
 go_enter func260,ntmps260
 go_wp2_with fail
 rw[HW0.out]
 refine(HCK.out _ (KR _ _)).mono ?_
 rintro e w1 ⟨rfl,hb1⟩
 have hb01:=aa hb0 hb1
 have b21:=b20.below hb1 b20.lt
 have HB1:=KO (HB.out.below hb1)
 by_cases hE0:E=0
 case neg=>
  have hp:=hp0 hE0
  subst hp
  have h1:(E !=0)=true:=by simpa using hE0
  clear hE0 hp0
  go_wp2
  refine KV (v:= .tuple #[.slice none 0 0,.int .i64 E]) (by simp[results,results260,go_sem]) rfl ?_
  exact⟨none,0,rfl,Li _ _ _ _,hb01⟩
 case pos=>
 subst hE0
 clear hp0
 obtain⟨hp1,hp2⟩:=Ju HE.out
 have hM:=lN.1 HE.out
 have hq:=Jb hM
 have hmE:=hM.mE
 obtain⟨M,hMM⟩:∃M,mL (aB Rs) true=M:=⟨_,rfl⟩
 rw[HP.out]at hp1
 rw[hMM]at hp1 hp2
 have hml:M.length<=65536:=by rw[<-hMM];exact JD true (by have:=hM.size;unfold tot at this;exact this)
 have HQ:=KO hq
 have HP1:=KO hp1
 have HP2:=KO hp2
 have hmg:∀W,Below w1.heap.size w1 W->Calls prog 263 #[.slice B Rs.length c,.bool true] W (jL 183 M 0 W):=by
  intro W hW
  have h8:=Ep B Rs c 65536 true W (HB1.out.below hW) (by have:=hq.2.1;omega) (fun r hr=>KY (hq.1 r hr) (by omega)) hq.2.2 (by omega)
  rw[Gr,Bb]at h8
  have h9:Rs.map Rm.l=aB Rs:=rfl
  rw[h9,hMM,hmE]at h8
  exact h8
 have HMG:=KO hmg
 have c20:w1.cell? ⟨w.heap.size,0,none⟩=some (.slice B Rs.length c):=b21.cell 0
 clear hp1 hp2 hM hq hmE hMM hmg
 go_wp2_with fail
 refine(HMG.out _ (KR _ _)).mono ?_
 rintro e w2 ⟨A1,c1,rfl,ho1,hb2⟩
 have HO1:=KO (aA ho1)
 have HB02:=KO (aa hb01 hb2)
 clear ho1 c20
 go_upto_region 4 with fail
 obtain⟨W3,hW3⟩:∃W3,w2.alloc (.cells #[.slice A1 M.length c1] 145)=W3:=⟨_,rfl⟩
 have hb3:Below w2.heap.size w2 W3:=by rw[<-hW3];exact(KR _ _).alloc (KS _) _
 have b3:Blk W3 w2.heap.size 145 #[.slice A1 M.length c1]:=by rw[<-hW3];exact Blk.new _ _ _
 try rw[hW3]
 have HB03:=KO (aa HB02.out hb3)
 have HO3:=KO (HO1.out.below hb3)
 have c30:W3.cell? ⟨w2.heap.size,0,none⟩=some (.slice A1 M.length c1):=b3.cell 0
 clear hW3 hb3
 go_wp2_with fail
 refine(DY A1 M c1 _ HO3.out (by omega)).mono ?_
 rw[HP1.out,HP2.out]
 rintro e w3 ⟨A2,c2,rfl,ho2,hb3⟩
 have HO:=KO (av ho2 HB03.out.size)
 clear ho2 c30
 go_wp2
 refine KV (v:= .tuple #[.slice A2 P.length c2,.int .i64 0]) (by simp[results,results260,go_sem]) rfl ?_
 exact⟨A2,c2,rfl,HO.out,aa HB03.out hb3⟩
theorem zM (B:Option Addr) (Rs:List Rm) (c:Nat) (n:Int) (w:World) (hB:RunsAt w B Rs) (hT:tot (aB Rs)<=1000000) (hl:Rs.length<=1000000):
  Calls prog 259 #[.agg #[.slice B Rs.length c,.int .u64 n]] w fun r w'=>r= .returned (.tuple #[.int .i64 (if fE (aB Rs)=0 then(tot (aB Rs):Int)else 0),.int .i64 ((jK (aB Rs)).length:Nat),.int .i64 (fE (aB Rs))])/\Below w.heap.size w w':=by
 obtain⟨W0,hW0⟩:∃W0,w.alloc (.cells #[.slice B Rs.length c,.int .u64 n] 38)=W0:=⟨_,rfl⟩
 have hb0:Below w.heap.size w W0:=by rw[<-hW0];exact(KR _ _).alloc (KS _) _
 have b20:Blk W0 w.heap.size 38 #[.slice B Rs.length c,.int .u64 n]:=by rw[<-hW0];exact Blk.new _ _ _
 have HW0:=KO hW0
 have HB:=KO (hB.below hb0)
 clear hW0 hB
 have hck:=fun W (hW:Below W0.heap.size W0 W)=>rR B Rs c n W (HB.out.below hW) hT hl
 have hen:=fun W (hW:Below W0.heap.size W0 W)=>wO B Rs c n W (HB.out.below hW) hT hl
 obtain⟨E,hE⟩:∃E,fE (aB Rs)=E:=⟨_,rfl⟩
 obtain⟨P,hP⟩:∃P,jK (aB Rs)=P:=⟨_,rfl⟩
 obtain⟨T,hTT⟩:∃T,tot (aB Rs)=T:=⟨_,rfl⟩
 have hp0:E≠0->P=[]:=fun h=>by rw[<-hP];unfold jK;rw[if_neg (by rw[hE];exact h)]
 rw[hE,hP]at hck
 rw[hTT]at hen hT
 rw[hE,hP,hTT]
 have HCK:=KO hck
 have HEN:=KO hen
 have hPE:E=0->P.length<=T:=fun h=>by
  rw[<-hP,<-hTT,vV (by rw[hE];exact h)]
  exact vP
 have HPE:=KO hPE
 clear hck hen hE hP hTT hPE
 obtain⟨V,hV⟩:∃V:Int,(if E=0 then(T:Int)else 0)=V:=⟨_,rfl⟩
 rw[hV]
 go_enter func259,ntmps259
 go_wp2_with fail
 rw[HW0.out]
 refine(HCK.out _ (KR _ _)).mono ?_
 rintro e w1 ⟨A1,c1,rfl,ho1,hb1⟩
 have b21:=b20.below hb1 b20.lt
 have hb01:=aa hb0 hb1
 clear ho1
 by_cases hE0:E=0
 case neg=>
  have hp:=hp0 hE0
  subst hp
  rw[if_neg hE0]at hV
  subst hV
  have h1:(E !=0)=true:=by simpa using hE0
  clear hp0
  go_wp2
  refine KV (v:= .tuple #[.int .i64 0,.int .i64 0,.int .i64 E]) (by simp[results,results259,go_sem]) rfl ?_
  exact⟨by first|rfl|simp,hb01⟩
 case pos=>
 subst hE0
 clear hp0
 rw[if_pos rfl]at hV
 subst hV
 have c20:w1.cell? ⟨w.heap.size,0,none⟩=some (.slice B Rs.length c):=b21.cell 0
 have c21:w1.cell? ⟨w.heap.size,1,none⟩=some (.int .u64 n):=b21.cell 1
 go_wp2_with fail
 refine(HEN.out _ hb1).mono ?_
 rintro e w2 ⟨rfl,hb2⟩
 go_wp2
 refine KV (v:= .tuple #[.int .i64 (T:Int),.int .i64 (P.length:Int),.int .i64 0]) (by simp[results,results259,go_sem]) rfl ?_
 exact⟨rfl,aa hb01 hb2⟩
theorem DJ {Rs:List Rm}:au (bM (iJ Rs))=au (oU (aB Rs)):=by
 unfold au oU
 rw[oC,vI]
section
section
variable {w:World} {g:Nat} {t:TypeId} {x0 x1 x2 x3 x4 x5 x6 x7 x8 x9 x10:Value}
theorem I9 (h:Blk w g t #[x0,x1,x2,x3,x4,x5,x6,x7,x8,x9,x10]) (y0 y1 y2 y3 y4 y5 y6 y7 y8 y9 y10:Value):Blk (((((((((((w.setCell ⟨g,0,none⟩ y0).setCell ⟨g,1,none⟩ y1).setCell ⟨g,2,none⟩ y2).setCell ⟨g,3,none⟩ y3).setCell ⟨g,4,none⟩ y4).setCell ⟨g,5,none⟩ y5).setCell ⟨g,6,none⟩ y6).setCell ⟨g,7,none⟩ y7).setCell ⟨g,8,none⟩ y8).setCell ⟨g,9,none⟩ y9).setCell ⟨g,10,none⟩ y10) g t #[y0,y1,y2,y3,y4,y5,y6,y7,y8,y9,y10]:=by
 simpa using((((((((((h.set_ 0 y0).set_ 1 y1).set_ 2 y2).set_ 3 y3).set_ 4 y4).set_ 5 y5).set_ 6 y6).set_ 7 y7).set_ 8 y8).set_ 9 y9).set_ 10 y10
theorem BM {B:Nat} {a:World} (h:Below B a w) (hg:B<=g) (y0 y1 y2 y3 y4 y5 y6 y7 y8 y9 y10:Value):Below B a (((((((((((w.setCell ⟨g,0,none⟩ y0).setCell ⟨g,1,none⟩ y1).setCell ⟨g,2,none⟩ y2).setCell ⟨g,3,none⟩ y3).setCell ⟨g,4,none⟩ y4).setCell ⟨g,5,none⟩ y5).setCell ⟨g,6,none⟩ y6).setCell ⟨g,7,none⟩ y7).setCell ⟨g,8,none⟩ y8).setCell ⟨g,9,none⟩ y9).setCell ⟨g,10,none⟩ y10):=
 ((((((((((h.setCell (p:=⟨g,0,none⟩) hg y0).setCell (p:=⟨g,1,none⟩) hg y1).setCell (p:=⟨g,2,none⟩) hg y2).setCell (p:=⟨g,3,none⟩) hg y3).setCell (p:=⟨g,4,none⟩) hg y4).setCell (p:=⟨g,5,none⟩) hg y5).setCell (p:=⟨g,6,none⟩) hg y6).setCell (p:=⟨g,7,none⟩) hg y7).setCell (p:=⟨g,8,none⟩) hg y8).setCell (p:=⟨g,9,none⟩) hg y9).setCell (p:=⟨g,10,none⟩) hg y10
end
abbrev eH (c:Cfg) (B:Option Addr) (m k:Nat) (n:Int):Array Value:=#[.int .u8 c.tag,.int .i64 c.most,.int .i64 c.seg,.int .i64 c.least,.int .i64 c.den,.int .i64 c.leafLow,.int .i64 c.rootLow,.int .i64 c.rootHigh,.int .i64 c.leafHigh,.slice B m k,.int .u64 n]
def jw (c:Cfg) (L:Lv):Int:=if iP c=0 then(if fE L=0/\((jK L).length:Int)<=c.most/\tot L<=2*(jK L).length+2 then 0 else 8)else iP c
def J4 (c:Cfg) (L:Lv):List Pr:=if jw c L=0 then jK L else[]
theorem lT {c:Cfg} {L:Lv} (h:jw c L=0):iP c=0/\fE L=0/\((jK L).length:Int)<=c.most/\tot L<=2*(jK L).length+2:=by
 unfold jw at h
 by_cases h1:iP c=0
 ·rw[if_pos h1]at h
  split at h
  ·rename_i h2;exact⟨h1,h2⟩
  ·cases h
 ·rw[if_neg h1]at h;exact absurd h h1
theorem sF (B:Option Addr) (Rs:List Rm) (k:Nat) (c:Cfg) (n:Int) (w:World) (hB:RunsAt w B Rs) (hT:tot (aB Rs)<=1000000) (hl:Rs.length<=1000000):
  Calls prog 257 #[.agg (eH c B Rs.length k n)] w fun r w'=>r= .returned (.int .i64 (jw c (aB Rs)))/\Below w.heap.size w w':=by
 obtain⟨W0,hW0⟩:∃W0,w.alloc (.cells #[.int .u8 c.tag,.int .i64 c.most,.int .i64 c.seg,.int .i64 c.least,.int .i64 c.den,.int .i64 c.leafLow,.int .i64 c.rootLow,.int .i64 c.rootHigh,.int .i64 c.leafHigh,.slice B Rs.length k,.int .u64 n] 40)=W0:=⟨_,rfl⟩
 have hb0:Below w.heap.size w W0:=by rw[<-hW0];exact(KR _ _).alloc (KS _) _
 have b0:Blk W0 w.heap.size 40 #[.int .u8 c.tag,.int .i64 c.most,.int .i64 c.seg,.int .i64 c.least,.int .i64 c.den,.int .i64 c.leafLow,.int .i64 c.rootLow,.int .i64 c.rootHigh,.int .i64 c.leafHigh,.slice B Rs.length k,.int .u64 n]:=by rw[<-hW0];exact Blk.new _ _ _
 have HW0:=KO hW0
 have HB:=KO (hB.below hb0)
 have HB0:=KO hb0
 have HC0:=KO b0
 have hcn:=fun W (hW:Below W0.heap.size W0 W)=>zM B Rs k n W (HB.out.below hW) hT hl
 obtain⟨V,hV⟩:∃V,jw c (aB Rs)=V:=⟨_,rfl⟩
 rw[hV]
 unfold jw at hV
 obtain⟨E,hE⟩:∃E,iP c=E:=⟨_,rfl⟩
 obtain⟨F,hF⟩:∃F,fE (aB Rs)=F:=⟨_,rfl⟩
 obtain⟨P,hP⟩:∃P,(jK (aB Rs)).length=P:=⟨_,rfl⟩
 obtain⟨T,hTT⟩:∃T,tot (aB Rs)=T:=⟨_,rfl⟩
 have hPT:P<=T:=by
  rw[<-hP,<-hTT]
  by_cases h:fE (aB Rs)=0
  ·rw[vV h];exact vP
  ·rw[Hf h];simp
 rw[hF,hP,hTT]at hcn
 rw[hE,hF,hP,hTT]at hV
 rw[hTT]at hT
 have hce:=fun W=>mM c W
 rw[hE]at hce
 have HCE:=KO hce
 have HV:=KO hV
 obtain⟨Z,hZ⟩:∃Z:Int,(if F=0 then(T:Int)else 0)=Z:=⟨_,rfl⟩
 rw[hZ]at hcn
 have HCN:=KO hcn
 have HZ:=KO hZ
 clear hW0 hB hcn hV hce hE hF hP hTT hZ
 have q0:=b0.cell
 clear b0
 go_enter func257,ntmps257
 go_upto_region 1 with fail
 rw[HW0.out]
 go_wp2_with fail
 refine(HCE.out _).mono ?_
 rintro e w1 ⟨rfl,hb1⟩
 have HB1:=KO (aa HB0.out hb1)
 have b1:=HC0.out.below hb1 HC0.out.lt
 have HC1:=KO b1
 have HS1:=KO hb1
 clear hb1 hb0 q0
 by_cases h0:E=0
 case neg=>
  have h1:(E !=0)=true:=by simpa using h0
  have HVV:Hid (V=E):=by show _=_;rw[<-HV.out,if_neg h0]
  clear h0
  go_wp2_with fail
  go_ret
  exact⟨by rw[HVV.out];rfl,HB1.out⟩
 case pos=>
 have HV1:=KO (show(if F=0/\(P:Int)<=c.most/\T<=2*P+2 then(0:Int)else 8)=V by rw[<-HV.out,if_pos h0])
 subst h0
 have q0:=b1.cell
 clear b1
 go_wp2_with fail
 refine(HCN.out _ HS1.out).mono ?_
 rintro e w2 ⟨rfl,hb2⟩
 have HB2:=KO (aa HB1.out hb2)
 have b2:=HC1.out.below hb2 HC1.out.lt
 have r1:w2.cell? ⟨w.heap.size,1,none⟩=some (.int .i64 c.most):=b2.cell 1
 clear hb2 b2 q0
 have hw1:IntKind.i64.wrap (2*(P:Int))=2*(P:Int):=KU _ (by omega)
 have hw2:IntKind.i64.wrap (2*(P:Int)+2)=2*(P:Int)+2:=KU _ (by omega)
 have hv:=HV1.out
 by_cases hf:F=0
 case neg=>
  have h1:(F !=0)=true:=by simpa using hf
  have HVV:Hid (V=8):=by show _=_;rw[<-hv,if_neg (fun h=>hf h.1)]
  clear hf hv hw1 hw2
  go_wp2_with fail
  go_ret
  exact⟨by rw[HVV.out];rfl,HB2.out⟩
 case pos=>
 subst hf
 have hz:Z=(T:Int):=by rw[<-HZ.out,if_pos rfl]
 subst hz
 by_cases h1:c.most< (P:Int)
 ·have HVV:Hid (V=8):=by show _=_;rw[<-hv,if_neg (fun h=>by omega)]
  clear hv
  go_wp2_with fail
  go_ret
  exact⟨by rw[HVV.out];rfl,HB2.out⟩
 ·by_cases h2:2*(P:Int)+2< (T:Int)
  ·have HVV:Hid (V=8):=by show _=_;rw[<-hv,if_neg (fun h=>by omega)]
   clear hv
   go_wp2_with fail
   go_ret
   exact⟨by rw[HVV.out];rfl,HB2.out⟩
  ·have HVV:Hid (V=0):=by show _=_;rw[<-hv,if_pos ⟨rfl,by omega,by omega⟩]
   clear hv
   go_wp2_with fail
   go_ret
   exact⟨by rw[HVV.out];rfl,HB2.out⟩
theorem AZ (B:Option Addr) (Rs:List Rm) (k:Nat) (c:Cfg) (n:Int) (w:World) (hB:RunsAt w B Rs) (hT:tot (aB Rs)<=1000000) (hl:Rs.length<=1000000):
  Calls prog 258 #[.agg (eH c B Rs.length k n)] w (kN (J4 c (aB Rs)) (jw c (aB Rs)) w):=by
 obtain⟨W0,hW0⟩:∃W0,w.alloc (.cells #[.int .u8 c.tag,.int .i64 c.most,.int .i64 c.seg,.int .i64 c.least,.int .i64 c.den,.int .i64 c.leafLow,.int .i64 c.rootLow,.int .i64 c.rootHigh,.int .i64 c.leafHigh,.slice B Rs.length k,.int .u64 n] 40)=W0:=⟨_,rfl⟩
 have hb0:Below w.heap.size w W0:=by rw[<-hW0];exact(KR _ _).alloc (KS _) _
 have b0:Blk W0 w.heap.size 40 #[.int .u8 c.tag,.int .i64 c.most,.int .i64 c.seg,.int .i64 c.least,.int .i64 c.den,.int .i64 c.leafLow,.int .i64 c.rootLow,.int .i64 c.rootHigh,.int .i64 c.leafHigh,.slice B Rs.length k,.int .u64 n]:=by rw[<-hW0];exact Blk.new _ _ _
 have HW0:=KO hW0
 have HB:=KO (hB.below hb0)
 have HB0:=KO hb0
 have HC0:=KO b0
 have hcn:=fun W (hW:Below W0.heap.size W0 W)=>rR B Rs k n W (HB.out.below hW) hT hl
 have hck:=fun W (hW:Below W0.heap.size W0 W)=>sF B Rs k c n W (HB.out.below hW) hT hl
 obtain⟨P,hP⟩:∃V,J4 c (aB Rs)=V:=⟨_,rfl⟩
 obtain⟨E,hE⟩:∃E,jw c (aB Rs)=E:=⟨_,rfl⟩
 have hP2:E≠0->P=[]:=fun h=>by rw[<-hP];unfold J4;rw[if_neg (by rw[hE];exact h)]
 have hP3:E=0->jK (aB Rs)=P/\fE (aB Rs)=0:=fun h=>by
  refine⟨?_,(lT (hE.trans h)).2.1⟩
  rw[<-hP];unfold J4;rw[if_pos (hE.trans h)]
 rw[hE]at hck
 rw[hP,hE]
 have HCN:=KO hcn
 have HCK:=KO hck
 have HP2:=KO hP2
 have HP3:=KO hP3
 clear hW0 hB hcn hck hP hE hP2 hP3
 have q0:=b0.cell
 clear b0
 go_enter func258,ntmps258
 go_upto_region 1 with fail
 rw[HW0.out]
 go_wp2_with fail
 refine(HCK.out _ (KR _ _)).mono ?_
 rintro e w1 ⟨rfl,hb1⟩
 have HB1:=KO (aa HB0.out hb1)
 have b1:=HC0.out.below hb1 HC0.out.lt
 have HS1:=KO hb1
 clear hb1 hb0 q0
 by_cases h0:E=0
 case neg=>
  have h1:(E !=0)=true:=by simpa using h0
  have hp:=HP2.out h0
  subst hp
  clear h0
  go_wp2_with fail
  refine KV (v:= .tuple #[.slice none 0 0,.int .i64 E]) (by simp[results,results258,go_sem]) rfl ?_
  exact⟨none,0,rfl,Li _ _ _ _,HB1.out⟩
 case pos=>
 subst h0
 have hcc:=HCN.out _ HS1.out
 rw[(HP3.out rfl).1,(HP3.out rfl).2]at hcc
 have HCC:=KO hcc
 have q0:=b1.cell
 clear b1 hcc
 go_wp2_with fail
 refine HCC.out.mono ?_
 rintro e w2 ⟨A2,c2,rfl,ho2,hb2⟩
 have HO:=KO (av (B':=w.heap.size) ho2 HB1.out.size)
 have HB2:=KO (aa HB1.out hb2)
 clear ho2 hb2 q0
 go_wp2_with fail
 refine KV (v:= .tuple #[.slice A2 P.length c2,.int .i64 0]) (by simp[results,results258,go_sem]) rfl ?_
 exact⟨A2,c2,rfl,HO.out,HB2.out⟩
end
theorem xX (B:Option Addr) (Rs:List Rm) (k most:Nat) (c:Cfg) (n:Int) (w:World) (hB:RunsAt w B Rs) (hm:most<=1000000):
  Calls prog 25 #[.agg (eH c B Rs.length k n),.int .i64 most] w fun r w'=>∃G:Bool,r= .returned (.bool G)/\(G=false->Rs.length+tot (aB Rs)<=most)/\Below w.heap.size w w':=by
 obtain⟨W0,hW0⟩:∃W0,w.alloc (.cells (eH c B Rs.length k n) 40)=W0:=⟨_,rfl⟩
 have hb0:Below w.heap.size w W0:=by rw[<-hW0];exact(KR _ _).alloc (KS _) _
 have b0:Blk W0 w.heap.size 40 (eH c B Rs.length k n):=by rw[<-hW0];exact Blk.new _ _ _
 have HW0:=KO hW0
 have HB:=KO (hB.below hb0)
 have HB0:=KO hb0
 have HC0:=KO b0
 have HG:=KO (za B Rs k most n W0 HB.out hm)
 clear hW0 hB
 have q0:=b0.cell
 clear b0
 go_enter func25,ntmps25
 go_upto_region 1 with fail
 rw[HW0.out]
 go_wp2_with fail
 refine HG.out.mono ?_
 rintro e w1 ⟨G,rfl,hG,hb1⟩
 have HGG:=KO hG
 clear hG q0
 go_wp2
 go_ret
 exact⟨G,rfl,HGG.out,aa HB0.out hb1⟩
theorem OwnRs.set11 {w:World} {B0 g:Nat} {B:Option Addr} {c:Nat} {Rs:List Rm} {t:TypeId} {x0 x1 x2 x3 x4 x5 x6 x7 x8 x9 x10:Value} (h:OwnRs w B0 B c Rs) (hB:Blk w g t #[x0,x1,x2,x3,x4,x5,x6,x7,x8,x9,x10]) (h1:145≠t) (h2:183≠t) (y0 y1 y2 y3 y4 y5 y6 y7 y8 y9 y10:Value):OwnRs (((((((((((w.setCell ⟨g,0,none⟩ y0).setCell ⟨g,1,none⟩ y1).setCell ⟨g,2,none⟩ y2).setCell ⟨g,3,none⟩ y3).setCell ⟨g,4,none⟩ y4).setCell ⟨g,5,none⟩ y5).setCell ⟨g,6,none⟩ y6).setCell ⟨g,7,none⟩ y7).setCell ⟨g,8,none⟩ y8).setCell ⟨g,9,none⟩ y9).setCell ⟨g,10,none⟩ y10) B0 B c Rs:=by
 have h10:=h.setT hB h1 h2 0 y0
 have b10:=hB.set_ 0 y0
 have h11:=h10.setT b10 h1 h2 1 y1
 have b11:=b10.set_ 1 y1
 have h12:=h11.setT b11 h1 h2 2 y2
 have b12:=b11.set_ 2 y2
 have h13:=h12.setT b12 h1 h2 3 y3
 have b13:=b12.set_ 3 y3
 have h14:=h13.setT b13 h1 h2 4 y4
 have b14:=b13.set_ 4 y4
 have h15:=h14.setT b14 h1 h2 5 y5
 have b15:=b14.set_ 5 y5
 have h16:=h15.setT b15 h1 h2 6 y6
 have b16:=b15.set_ 6 y6
 have h17:=h16.setT b16 h1 h2 7 y7
 have b17:=b16.set_ 7 y7
 have h18:=h17.setT b17 h1 h2 8 y8
 have b18:=b17.set_ 8 y8
 have h19:=h18.setT b18 h1 h2 9 y9
 have b19:=b18.set_ 9 y9
 have h20:=h19.setT b19 h1 h2 10 y10
 have b20:=b19.set_ 10 y10
 exact h20
def Pre (Rs Ts:List Rm) (k:Nat):Prop:=∀j (h1:j< Rs.length) (h2:j< Ts.length),j< k->(Rs[j]'h1).l=(Ts[j]'h2).l
theorem GH {Rs Ts:List Rm} {k:Nat} (h:Pre Rs Ts k) (h1:k< Rs.length) (h2:k< Ts.length) (he:(Rs[k]'h1).l=(Ts[k]'h2).l):Pre Rs Ts (k+1):=fun j h3 h4 h5=>by
 by_cases e:j=k
 ·subst e;exact he
 ·exact h j h3 h4 (by omega)
theorem vN {Rs:List Rm} {j:Nat} (h:j< Rs.length):(aB Rs)[j]?=some (Rs[j]'h).l:=by
 unfold aB
 rw[List.getElem?_map,List.getElem?_eq_getElem h]
 rfl
theorem FZ {Rs Ts:List Rm} {k:Nat} (h1:k< Rs.length) (h2:k< Ts.length) (he:(Rs[k]'h1).l≠(Ts[k]'h2).l):decide (aB Rs=aB Ts)=false:=by
 refine decide_eq_false fun h=>he ?_
 have h3:=vN h1
 rw[h,vN h2]at h3
 exact(KQ h3).symm
theorem BQ {Rs Ts:List Rm} {k:Nat} (h:Pre Rs Ts k) (h1:Rs.length=Ts.length) (h2:¬k< Rs.length):decide (aB Rs=aB Ts)=true:=by
 refine decide_eq_true (List.ext_getElem? fun j=>?_)
 by_cases hj:j< Rs.length
 ·rw[vN hj,vN (h1 ▸ hj),h j hj (h1 ▸ hj) (by omega)]
 ·rw[Mg (by rw[dB];omega),Mg (by rw[dB];omega)]
theorem GL {Rs Ts:List Rm} (h:¬Rs.length=Ts.length):decide (aB Rs=aB Ts)=false:=decide_eq_false fun h2=>h (by have:=congrArg List.length h2;rwa [dB,dB]at this)
theorem zu (B D:Option Addr) (Rs Ts:List Rm) (c d:Nat) (w:World) (hB:RunsAt w B Rs) (hD:RunsAt w D Ts) (hl:Rs.length<=1000000) (hrs:∀r∈Rs,r.l.length<=1000000) (hts:∀r∈Ts,r.l.length<=1000000):
  Calls prog 124 #[.slice B Rs.length c,.slice D Ts.length d,.func (.func 125) #[] #[]] w fun r w'=>r= .returned (.bool (decide (aB Rs=aB Ts)))/\Below w.heap.size w w':=by
 have HB:=KO hB
 have HD:=KO hD
 have HHR:=KO hrs
 have HHT:=KO hts
 clear hB hD hrs hts
 by_cases hlen:Rs.length=Ts.length
 case neg=>
  rw[GL hlen]
  have g1:((Rs.length:Int)!=(Ts.length:Int))=true:=by simpa using(show¬(Rs.length:Int)=(Ts.length:Int)by omega)
  clear hlen
  go_enter func124,ntmps124
  go_wp2
  go_ret
  exact⟨rfl,KR _ _⟩
 case pos=>
 obtain⟨Q,hQ⟩:∃Q,decide (aB Rs=aB Ts)=Q:=⟨_,rfl⟩
 rw[hQ]
 have HQ:=KO hQ
 have HLEN:=KO hlen
 have g1:((Rs.length:Int)!=(Ts.length:Int))=false:=by simpa using(show(Rs.length:Int)=(Ts.length:Int)by omega)
 have HP0:Hid (Pre Rs Ts 0):=fun j _ _ h=>by omega
 have hl2:Ts.length<=1000000:=by omega
 clear hQ hlen
 go_enter func124,ntmps124
 go_wp2
 go_loopw [17] (fun i wr=>∃k:Nat,k<=Rs.length/\i= .int .i64 k/\Below w.heap.size w wr/\Hid (Pre Rs Ts k)) (fun i _=>Rs.length-(intOf i).toNat)
 case atStart=>exact⟨0,K8 _,rfl,KR _ _,HP0.out⟩
 case round=>
  obtain⟨k,hk,rfl,hb,hpre⟩:=hrel
  by_cases hlt:k< Rs.length
  ·have hlt2:k< Ts.length:=by rw[<-HLEN.out];exact hlt
   obtain⟨b,off,rfl,hbl,cp⟩:=HB.out.sl.oneB hb k hlt
   obtain⟨b2,off2,rfl,hbl2,cq⟩:=HD.out.sl.oneB hb k hlt2
   have hok:=(HB.out.ok _ (Lh hlt)).below hb
   have hok2:=(HD.out.ok _ (Lh hlt2)).below hb
   have hrl:=HHR.out _ (Lh hlt)
   have hrl2:=HHT.out _ (Lh hlt2)
   have hup:=KO (fun h=>GH hpre.out hlt hlt2 h)
   have hno:=KO (fun h=>FZ hlt hlt2 h)
   obtain⟨r,hr⟩:∃r,Rs[k]'hlt=r:=⟨_,rfl⟩
   obtain⟨s,hs⟩:∃s,Ts[k]'hlt2=s:=⟨_,rfl⟩
   rw[hr]at cp hok hrl hup hno
   rw[hs]at cq hok2 hrl2 hup hno
   obtain⟨l,A,cl⟩:=r
   obtain⟨m,A2,cm⟩:=s
   have cp1:wr.cell? ⟨b,off+k,none⟩=some (.slice A l.length cl):=cp
   have cq1:wr.cell? ⟨b2,off2+k,none⟩=some (.slice A2 m.length cm):=cq
   dsimp only at hrl hrl2 hup hno
   have hki:(0:Int)<=(k:Int):=by omega
   have hki2:(k:Int)< (Rs.length:Int):=by omega
   have hki3:(k:Int)< (Ts.length:Int):=by omega
   obtain⟨V,hV⟩:∃V,decide (l=m)=V:=⟨_,rfl⟩
   have lb1:b< wr.heap.size:=Nat.lt_of_lt_of_le hbl hb.size
   have lb2:b2< wr.heap.size:=Nat.lt_of_lt_of_le hbl2 hb.size
   have HV:=KO hV
   have hsm:∀W,Below wr.heap.size wr W->Calls prog 125 #[.agg #[.slice A l.length cl],.agg #[.slice A2 m.length cm]] W (fun r w'=>r= .returned (.bool V)/\Below W.heap.size W w'):=by
    intro W hW
    have h8:=uj A A2 l m cl cm W (hok.sl.below hW) (hok2.sl.below hW) (by omega) (by omega)
    rw[hV]at h8
    exact h8
   have HSM:=KO hsm
   have HBB:Hid (Below wr.heap.size wr ((wr.alloc (.cells #[.slice A l.length cl] 145)).alloc (.cells #[.slice A2 m.length cm] 145))):=((KR _ _).alloc (KS _) _).alloc (by simp) _
   clear cp cq hr hs hok hok2 hV hsm hbl hbl2
   go_wp2_with fail
   refine(HSM.out _ HBB.out).mono ?_
   rintro e w2 ⟨rfl,hb2⟩
   have hb3:=aa hb (aa HBB.out hb2)
   cases V with
   |true=>
    go_wp2
    go_roundw
    case rel=>exact⟨k+1,by omega,by go_num,hb3,hup.out (of_decide_eq_true HV.out)⟩
    case measure=>simp[intOf];omega
   |false=>
    have HF:Hid (Q=false):=by show _=_;rw[<-HQ.out];exact hno.out (of_decide_eq_false HV.out)
    go_wp2
    go_ret
    exact⟨by rw[HF.out];rfl,hb3⟩
  ·have HF:Hid (Q=true):=by show _=_;rw[<-HQ.out];exact BQ hpre.out HLEN.out hlt
   go_wp2
   go_ret
   exact⟨by rw[HF.out];rfl,hb⟩
theorem Dj (B D:Option Addr) (Rs Ts:List Rm) (nr nt c d:Nat) (n m:Int) (w:World) (hnr:Rs.length=nr) (hnt:Ts.length=nt) (hB:RunsAt w B Rs) (hD:RunsAt w D Ts) (hl:Rs.length<=1000000) (hrs:∀r∈Rs,r.l.length<=1000000) (hts:∀r∈Ts,r.l.length<=1000000):
  Calls prog 108 #[.agg #[.slice B nr c,.int .u64 n],.agg #[.slice D nt d,.int .u64 m]] w fun r w'=>r= .returned (.bool (decide (n=m)&&decide (aB Rs=aB Ts)))/\Below w.heap.size w w':=by
 have hb0:Below w.heap.size w ((w.alloc (.cells #[.slice B nr c,.int .u64 n] 38)).alloc (.cells #[.slice D nt d,.int .u64 m] 38)):=((KR _ _).alloc (KS _) _).alloc (by simp) _
 have hsa:=fun W (hW:Below w.heap.size w W)=>zu B D Rs Ts c d W (hB.below hW) (hD.below hW) hl hrs hts
 rw[hnr,hnt]at hsa
 obtain⟨Q,hQ⟩:∃Q,decide (aB Rs=aB Ts)=Q:=⟨_,rfl⟩
 rw[hQ]at hsa ⊢
 have HSA:=KO hsa
 clear hsa hB hD hrs hts hQ
 by_cases hnm:n=m
 ·subst hnm
  rw[decide_eq_true rfl,Bool.true_and]
  go_enter func108,ntmps108
  go_wp2_with fail
  refine(HSA.out _ hb0).mono ?_
  rintro e w1 ⟨rfl,hb1⟩
  go_wp2
  go_ret
  exact⟨rfl,aa hb0 hb1⟩
 ·have g1:(n==m)=false:=by simpa using hnm
  rw[decide_eq_false hnm,Bool.false_and]
  clear hnm
  go_enter func108,ntmps108
  go_wp2_with fail
  go_ret
  exact⟨rfl,hb0⟩
theorem wG (B D:Option Addr) (Rs Ts:List Rm) (c d:Nat) (w:World) (hB:RunsAt w B Rs) (hD:RunsAt w D Ts) (hl:Rs.length<=1000000) (hrs:∀r∈Rs,r.l.length<=1000000) (hts:∀r∈Ts,r.l.length<=1000000):
  Calls prog 77 #[.slice B Rs.length c,.slice D Ts.length d] w fun r w'=>r= .returned (.bool (decide (aB Rs=aB Ts)))/\Below w.heap.size w w':=by
 have HB:=KO hB
 have HD:=KO hD
 have HHR:=KO hrs
 have HHT:=KO hts
 clear hB hD hrs hts
 by_cases hlen:Rs.length=Ts.length
 case neg=>
  rw[GL hlen]
  have g1:((Rs.length:Int)!=(Ts.length:Int))=true:=by simpa using(show¬(Rs.length:Int)=(Ts.length:Int)by omega)
  clear hlen
  go_enter func77,ntmps77
  go_wp2
  go_ret
  exact⟨rfl,KR _ _⟩
 case pos=>
 obtain⟨Q,hQ⟩:∃Q,decide (aB Rs=aB Ts)=Q:=⟨_,rfl⟩
 rw[hQ]
 have HQ:=KO hQ
 have HLEN:=KO hlen
 have g1:((Rs.length:Int)!=(Ts.length:Int))=false:=by simpa using(show(Rs.length:Int)=(Ts.length:Int)by omega)
 have HP0:Hid (Pre Rs Ts 0):=fun j _ _ h=>by omega
 have hl2:Ts.length<=1000000:=by omega
 clear hQ hlen
 go_enter func77,ntmps77
 go_wp2
 go_loopw [5] (fun i wr=>∃k:Nat,k<=Rs.length/\i= .int .i64 k/\Below w.heap.size w wr/\Hid (Pre Rs Ts k)) (fun i _=>Rs.length-(intOf i).toNat)
 case atStart=>exact⟨0,K8 _,rfl,KR _ _,HP0.out⟩
 case round=>
  obtain⟨k,hk,rfl,hb,hpre⟩:=hrel
  by_cases hlt:k< Rs.length
  ·have hlt2:k< Ts.length:=by rw[<-HLEN.out];exact hlt
   obtain⟨b,off,rfl,hbl,cp⟩:=HB.out.sl.oneB hb k hlt
   obtain⟨b2,off2,rfl,hbl2,cq⟩:=HD.out.sl.oneB hb k hlt2
   have hok:=(HB.out.ok _ (Lh hlt)).below hb
   have hok2:=(HD.out.ok _ (Lh hlt2)).below hb
   have hrl:=HHR.out _ (Lh hlt)
   have hrl2:=HHT.out _ (Lh hlt2)
   have hup:=KO (fun h=>GH hpre.out hlt hlt2 h)
   have hno:=KO (fun h=>FZ hlt hlt2 h)
   obtain⟨r,hr⟩:∃r,Rs[k]'hlt=r:=⟨_,rfl⟩
   obtain⟨s,hs⟩:∃s,Ts[k]'hlt2=s:=⟨_,rfl⟩
   rw[hr]at cp hok hrl hup hno
   rw[hs]at cq hok2 hrl2 hup hno
   obtain⟨l,A,cl⟩:=r
   obtain⟨m,A2,cm⟩:=s
   have cp1:wr.cell? ⟨b,off+k,none⟩=some (.slice A l.length cl):=cp
   have cq1:wr.cell? ⟨b2,off2+k,none⟩=some (.slice A2 m.length cm):=cq
   dsimp only at hrl hrl2 hup hno
   have hki:(0:Int)<=(k:Int):=by omega
   have hki2:(k:Int)< (Rs.length:Int):=by omega
   have hki3:(k:Int)< (Ts.length:Int):=by omega
   obtain⟨V,hV⟩:∃V,decide (l=m)=V:=⟨_,rfl⟩
   have lb1:b< wr.heap.size:=Nat.lt_of_lt_of_le hbl hb.size
   have lb2:b2< wr.heap.size:=Nat.lt_of_lt_of_le hbl2 hb.size
   have HV:=KO hV
   have hsm:∀W,Below wr.heap.size wr W->Calls prog 91 #[.agg #[.slice A l.length cl],.agg #[.slice A2 m.length cm]] W (fun r w'=>r= .returned (.bool V)/\Below W.heap.size W w'):=by
    intro W hW
    have h8:=wW A A2 l m cl cm W (hok.sl.below hW) (hok2.sl.below hW) (by omega) (by omega)
    rw[hV]at h8
    exact h8
   have HSM:=KO hsm
   clear cp cq hr hs hok hok2 hV hsm hbl hbl2
   go_upto_region 6 with fail
   go_cut [26]from 17 to 26 (fun v wx=>v= .bool (!V)/\Below wr.heap.size wr wx)
   case first=>
    go_region_held3 (fun w'=>(∀bq jq,bq< wr.heap.size->w'.cell? ⟨bq,jq,none⟩=wr.cell? ⟨bq,jq,none⟩)/\(∀bq jq,bq< wr.heap.size->w'.frozen? ⟨bq,jq,none⟩=wr.frozen? ⟨bq,jq,none⟩)/\wr.heap.size<=w'.heap.size/\Below wr.heap.size wr w') ((with_reducible first|exact SB.init|exact SB.init0|exact SB.below (by assumption) (by assumption)|assumption))
     (first
      |(go_at_call 91;refine(HSM.out _ (SB.bel (by assumption))).mono ?_;rintro e22 v22 ⟨rfl,hv22⟩;have hl22:=SB.le hv22 (by assumption);obtain⟨hc22,hz22,hs22⟩:=dE hv22)
      |fail "no arm")
    all_goals
     go_wp2_with fail
     go_meet
     exact⟨by simp,SB.bel (by assumption)⟩
   case rest=>
    obtain⟨rfl,hb2⟩:=hcut
    have hb3:=aa hb hb2
    clear cp1 cq1
    cases V with
    |true=>
     go_wp2
     go_roundw
     case rel=>exact⟨k+1,by omega,by go_num,hb3,hup.out (of_decide_eq_true HV.out)⟩
     case measure=>simp[intOf];omega
    |false=>
     have HF:Hid (Q=false):=by show _=_;rw[<-HQ.out];exact hno.out (of_decide_eq_false HV.out)
     go_wp2
     go_ret
     exact⟨by rw[HF.out];rfl,hb3⟩
  ·have HF:Hid (Q=true):=by show _=_;rw[<-HQ.out];exact BQ hpre.out HLEN.out hlt
   go_wp2
   go_ret
   exact⟨by rw[HF.out];rfl,hb⟩
theorem Bv (B D:Option Addr) (Rs Ts:List Rm) (nr nt c d:Nat) (n m:Int) (w:World) (hnr:Rs.length=nr) (hnt:Ts.length=nt) (hB:RunsAt w B Rs) (hD:RunsAt w D Ts) (hl:Rs.length<=1000000) (hrs:∀r∈Rs,r.l.length<=1000000) (hts:∀r∈Ts,r.l.length<=1000000):
  Calls prog 61 #[.agg #[.slice B nr c,.int .u64 n],.agg #[.slice D nt d,.int .u64 m]] w fun r w'=>r= .returned (.bool (decide (n=m)&&decide (aB Rs=aB Ts)))/\Below w.heap.size w w':=by
 have hb0:Below w.heap.size w ((w.alloc (.cells #[.slice B nr c,.int .u64 n] 38)).alloc (.cells #[.slice D nt d,.int .u64 m] 38)):=((KR _ _).alloc (KS _) _).alloc (by simp) _
 have hsa:=fun W (hW:Below w.heap.size w W)=>wG B D Rs Ts c d W (hB.below hW) (hD.below hW) hl hrs hts
 rw[hnr,hnt]at hsa
 obtain⟨Q,hQ⟩:∃Q,decide (aB Rs=aB Ts)=Q:=⟨_,rfl⟩
 rw[hQ]at hsa ⊢
 have HSA:=KO hsa
 clear hsa hB hD hrs hts hQ
 by_cases hnm:n=m
 ·subst hnm
  rw[decide_eq_true rfl,Bool.true_and]
  go_enter func61,ntmps61
  go_wp2_with fail
  refine(HSA.out _ hb0).mono ?_
  rintro e w1 ⟨rfl,hb1⟩
  go_wp2
  go_ret
  exact⟨rfl,aa hb0 hb1⟩
 ·have g1:(n==m)=false:=by simpa using hnm
  rw[decide_eq_false hnm,Bool.false_and]
  clear hnm
  go_enter func61,ntmps61
  go_wp2_with fail
  go_ret
  exact⟨rfl,hb0⟩
def Jn (c d:Cfg):Bool:=decide (c=d)
theorem pV (c d:Cfg) (w:World):
  (binOp .eql 24 (.agg #[.int .u8 c.tag,.int .i64 c.most,.int .i64 c.seg,.int .i64 c.least,.int .i64 c.den,.int .i64 c.leafLow,.int .i64 c.rootLow,.int .i64 c.rootHigh,.int .i64 c.leafHigh]) (.agg #[.int .u8 d.tag,.int .i64 d.most,.int .i64 d.seg,.int .i64 d.least,.int .i64 d.den,.int .i64 d.leafLow,.int .i64 d.rootLow,.int .i64 d.rootHigh,.int .i64 d.leafHigh])).run prog w= .ok (.bool (Jn c d)) w:=by
 have h3:=underlying24
 obtain⟨x0,x1,x2,x3,x4,x5,x6,x7,x8⟩:=c
 obtain⟨y0,y1,y2,y3,y4,y5,y6,y7,y8⟩:=d
 simp only[go_sem,h3]
 simp[go_sem,Jn]
 by_cases h0:x0=y0
 ·by_cases h1:x1=y1
  ·by_cases h2:x2=y2
   ·by_cases h3:x3=y3
    ·by_cases h4:x4=y4
     ·by_cases h5:x5=y5
      ·by_cases h6:x6=y6
       ·by_cases h7:x7=y7 <;> by_cases h8:x8=y8 <;> simp[h0,h1,h2,h3,h4,h5,h6,h7,h8]
       ·simp[h0,h1,h2,h3,h4,h5,h6]
      ·simp[h0,h1,h2,h3,h4,h5]
     ·simp[h0,h1,h2,h3,h4]
    ·simp[h0,h1,h2,h3]
   ·simp[h0,h1,h2]
  ·simp[h0,h1]
 ·simp[h0]
def rY (c d:Cfg) (n m:Int) (K L:Lv):Bool:=Jn c d&&(decide (n=m)&&decide (K=L))
theorem EI {P:Prop} (h:P:=by
 obtain⟨W0,hW0⟩:∃W0,(w.alloc (.cells #[.int .u8 c.tag,.int .i64 c.most,.int .i64 c.seg,.int .i64 c.least,.int .i64 c.den,.int .i64 c.leafLow,.int .i64 c.rootLow,.int .i64 c.rootHigh,.int .i64 c.leafHigh,.slice B nr k,.int .u64 n] 40)).alloc (.cells #[.int .u8 d.tag,.int .i64 d.most,.int .i64 d.seg,.int .i64 d.least,.int .i64 d.den,.int .i64 d.leafLow,.int .i64 d.rootLow,.int .i64 d.rootHigh,.int .i64 d.leafHigh,.slice D nt q,.int .u64 m] 40)=W0:=⟨_,rfl⟩
 have hb0:Below w.heap.size w W0:=by rw[<-hW0];exact((KR _ _).alloc (KS _) _).alloc (by simp) _
 have b1:Blk W0 w.heap.size 40 #[.int .u8 c.tag,.int .i64 c.most,.int .i64 c.seg,.int .i64 c.least,.int .i64 c.den,.int .i64 c.leafLow,.int .i64 c.rootLow,.int .i64 c.rootHigh,.int .i64 c.leafHigh,.slice B nr k,.int .u64 n]:=by rw[<-hW0];exact(Blk.new _ _ _).alloc _
 have b2:Blk W0 (w.heap.size+1) 40 #[.int .u8 d.tag,.int .i64 d.most,.int .i64 d.seg,.int .i64 d.least,.int .i64 d.den,.int .i64 d.leafLow,.int .i64 d.rootLow,.int .i64 d.rootHigh,.int .i64 d.leafHigh,.slice D nt q,.int .u64 m]:=by
  rw[<-hW0]
  have:=Blk.new (w.alloc (.cells #[.int .u8 c.tag,.int .i64 c.most,.int .i64 c.seg,.int .i64 c.least,.int .i64 c.den,.int .i64 c.leafLow,.int .i64 c.rootLow,.int .i64 c.rootHigh,.int .i64 c.leafHigh,.slice B nr k,.int .u64 n] 40)) 40 #[.int .u8 d.tag,.int .i64 d.most,.int .i64 d.seg,.int .i64 d.least,.int .i64 d.den,.int .i64 d.leafLow,.int .i64 d.rootLow,.int .i64 d.rootHigh,.int .i64 d.leafHigh,.slice D nt q,.int .u64 m]
  rwa [KX]at this
 have HW0:=KO hW0
 first|(have mz:=mk0;clear mz;have hsa:=Dj B D Rs Ts nr nt k q n m W0 hnr hnt (hB.below hb0) (hD.below hb0) hl hrs hts)|(have mz:=mk1;clear mz;have hsa:=Bv B D Rs Ts nr nt k q n m W0 hnr hnt (hB.below hb0) (hD.below hb0) hl hrs hts)
 have heq:=fun W=>pV c d W
 obtain⟨S,hS⟩:∃S,rY c d n m (aB Rs) (aB Ts)=S:=⟨_,rfl⟩
 rw[hS]
 unfold rY at hS
 obtain⟨V,hV⟩:∃V,(decide (n=m)&&decide (aB Rs=aB Ts))=V:=⟨_,rfl⟩
 rw[hV]at hsa hS
 obtain⟨E,hE⟩:∃E,Jn c d=E:=⟨_,rfl⟩
 rw[hE]at heq hS
 have HSA:=KO hsa
 have HS:=KO hS
 clear hsa hS hV hE hB hD hrs hts hW0
 have p0:=b1.cell
 have q0:=b2.cell
 have l1:=b1.lt
 have l2:=b2.lt
 clear b1 b2
 first|go_enter func94,ntmps94|go_enter func39,ntmps39
 go_upto_region 1 with fail
 rw[HW0.out]
 cases E with
 |true=>
  have HT:Hid (V=S):=by show _=_;rw[<-HS.out];simp
  go_wp2_with fail
  refine HSA.out.mono ?_
  rintro e w1 ⟨rfl,hb1⟩
  go_wp2
  go_ret
  exact⟨by rw[<-HT.out];rfl,aa hb0 hb1⟩
 |false=>
  have HT:Hid (S=false):=by show _=_;rw[<-HS.out];simp
  go_wp2_with fail
  go_ret
  exact⟨by rw[HT.out];rfl,hb0⟩):P:=h
theorem Db (c d:Cfg) (B D:Option Addr) (Rs Ts:List Rm) (nr nt k q:Nat) (n m:Int) (w:World) (hnr:Rs.length=nr) (hnt:Ts.length=nt) (hB:RunsAt w B Rs) (hD:RunsAt w D Ts) (hl:Rs.length<=1000000) (hrs:∀r∈Rs,r.l.length<=1000000) (hts:∀r∈Ts,r.l.length<=1000000):
  Calls prog 94 #[.agg (eH c B nr k n),.agg (eH d D nt q m)] w fun r w'=>r= .returned (.bool (rY c d n m (aB Rs) (aB Ts)))/\Below w.heap.size w w':=by
 have mk0:=()
 exact EI
theorem Bh (c d:Cfg) (B D:Option Addr) (Rs Ts:List Rm) (nr nt k q:Nat) (n m:Int) (w:World) (hnr:Rs.length=nr) (hnt:Ts.length=nt) (hB:RunsAt w B Rs) (hD:RunsAt w D Ts) (hl:Rs.length<=1000000) (hrs:∀r∈Rs,r.l.length<=1000000) (hts:∀r∈Ts,r.l.length<=1000000):
  Calls prog 39 #[.agg (eH c B nr k n),.agg (eH d D nt q m)] w fun r w'=>r= .returned (.bool (rY c d n m (aB Rs) (aB Ts)))/\Below w.heap.size w w':=by
 have mk1:=()
 exact EI
def BV (c:Cfg) (L:Lv) (n:Int) (w:World) (r:Ending) (w':World):Prop:=∃B k Rs,r= .returned (.agg (eH c B Rs.length k n))/\aB Rs=L/\OwnRs w' w.heap.size B k Rs/\Below w.heap.size w w'
theorem Eb (B:Option Addr) (Rs:List Rm) (k:Nat) (c:Cfg) (n:Int) (w:World) (hB:RunsAt w B Rs) (hl:Rs.length<=1000000) (hrs:∀r∈Rs,r.l.length<=1000000):
  Calls prog 97 #[.agg (eH c B Rs.length k n)] w (BV c (aB Rs) n w):=by
 obtain⟨W0,hW0⟩:∃W0,(w.alloc (.cells #[.int .u8 c.tag,.int .i64 c.most,.int .i64 c.seg,.int .i64 c.least,.int .i64 c.den,.int .i64 c.leafLow,.int .i64 c.rootLow,.int .i64 c.rootHigh,.int .i64 c.leafHigh,.slice B Rs.length k,.int .u64 n] 40)).alloc (.cells #[.int .u8 0,.int .i64 0,.int .i64 0,.int .i64 0,.int .i64 0,.int .i64 0,.int .i64 0,.int .i64 0,.int .i64 0,.slice none 0 0,.int .u64 0] 40)=W0:=⟨_,rfl⟩
 have hb0:Below w.heap.size w W0:=by rw[<-hW0];exact((KR _ _).alloc (KS _) _).alloc (by simp) _
 have b0:Blk W0 w.heap.size 40 #[.int .u8 c.tag,.int .i64 c.most,.int .i64 c.seg,.int .i64 c.least,.int .i64 c.den,.int .i64 c.leafLow,.int .i64 c.rootLow,.int .i64 c.rootHigh,.int .i64 c.leafHigh,.slice B Rs.length k,.int .u64 n]:=by rw[<-hW0];exact(Blk.new _ _ _).alloc _
 have br0:Blk W0 (w.heap.size+1) 40 #[.int .u8 0,.int .i64 0,.int .i64 0,.int .i64 0,.int .i64 0,.int .i64 0,.int .i64 0,.int .i64 0,.int .i64 0,.slice none 0 0,.int .u64 0]:=by
  rw[<-hW0]
  have:=Blk.new (w.alloc (.cells #[.int .u8 c.tag,.int .i64 c.most,.int .i64 c.seg,.int .i64 c.least,.int .i64 c.den,.int .i64 c.leafLow,.int .i64 c.rootLow,.int .i64 c.rootHigh,.int .i64 c.leafHigh,.slice B Rs.length k,.int .u64 n] 40)) 40 #[.int .u8 0,.int .i64 0,.int .i64 0,.int .i64 0,.int .i64 0,.int .i64 0,.int .i64 0,.int .i64 0,.int .i64 0,.slice none 0 0,.int .u64 0]
  rwa [KX]at this
 have HW0:=KO hW0
 have HB:=KO (hB.below hb0)
 have HB0:=KO hb0
 have HC0:=KO b0
 have HR0:=KO br0
 have htw:=Di B Rs k n W0 (hB.below hb0) hl hrs
 have HTW:=KO htw
 have HB0:=KO hb0
 have HC0:=KO b0
 have HR0:=KO br0
 clear hW0 htw hB hrs
 have q0:=b0.cell
 clear b0 br0 hb0
 go_enter func97,ntmps97
 go_upto_region 1 with fail
 rw[HW0.out]
 go_wp2_with fail
 refine HTW.out.mono ?_
 rintro e w1 ⟨A2,k2,R2,rfl,hl2,ho2,hb1⟩
 have HL2:=KO hl2
 have HO2:=KO (ho2.mono HB0.out.size)
 have b1:=HC0.out.below hb1 HC0.out.lt
 have HR1:=KO (HR0.out.below hb1 HR0.out.lt)
 have HB1:=KO (aa HB0.out hb1)
 clear hl2 ho2 hb1 q0
 have q0:=b1.cell
 have fr0:=b1.frozen
 have l1:=b1.lt
 go_upto_region 2 with fail
 obtain⟨U1,hU1⟩:∃U,(w1.setCell ⟨w.heap.size,9,none⟩ (.slice A2 R2.length k2)).setCell ⟨w.heap.size,10,none⟩ (.int .u64 n)=U:=⟨_,rfl⟩
 rw[hU1]
 have bb:Blk U1 w.heap.size 40 #[.int .u8 c.tag,.int .i64 c.most,.int .i64 c.seg,.int .i64 c.least,.int .i64 c.den,.int .i64 c.leafLow,.int .i64 c.rootLow,.int .i64 c.rootHigh,.int .i64 c.leafHigh,.slice A2 R2.length k2,.int .u64 n]:=by
  rw[<-hU1]
  have h:=(b1.set_ 9 (.slice A2 R2.length k2)).set_ 10 (.int .u64 n)
  simpa using h
 have br:Blk U1 (w.heap.size+1) 40 #[.int .u8 0,.int .i64 0,.int .i64 0,.int .i64 0,.int .i64 0,.int .i64 0,.int .i64 0,.int .i64 0,.int .i64 0,.slice none 0 0,.int .u64 0]:=by
  rw[<-hU1]
  exact(HR1.out.far (p:=⟨w.heap.size,9,none⟩) (by simp) _).far (p:=⟨w.heap.size,10,none⟩) (by simp) _
 have HO3:Hid (OwnRs U1 w.heap.size A2 k2 R2):=by
  show OwnRs _ _ _ _ _
  rw[<-hU1]
  exact(HO2.out.setT b1 (by decide) (by decide) 9 _).setT (b1.set_ 9 _) (by decide) (by decide) 10 _
 have HB2:Hid (Below w.heap.size w U1):=by
  show Below _ _ _
  rw[<-hU1]
  exact(HB1.out.setCell (p:=⟨w.heap.size,9,none⟩) (KS _) _).setCell (p:=⟨w.heap.size,10,none⟩) (KS _) _
 clear hU1 b1 l1 q0 fr0
 have q0:=bb.cell
 have y0:=br.cell
 have fr0:=br.frozen
 have l1:=bb.lt
 have l2:=br.lt
 go_wp2_with fail
 have bz:=I9 br (.int .u8 c.tag) (.int .i64 c.most) (.int .i64 c.seg) (.int .i64 c.least) (.int .i64 c.den) (.int .i64 c.leafLow) (.int .i64 c.rootLow) (.int .i64 c.rootHigh) (.int .i64 c.leafHigh) (.slice A2 R2.length k2) (.int .u64 n)
 have z0:=bz.cell
 simp only[LG,Lb,La]at z0
 refine KV (v:= .agg #[.int .u8 c.tag,.int .i64 c.most,.int .i64 c.seg,.int .i64 c.least,.int .i64 c.den,.int .i64 c.leafLow,.int .i64 c.rootLow,.int .i64 c.rootHigh,.int .i64 c.leafHigh,.slice A2 R2.length k2,.int .u64 n]) (by simp[results,results97,go_sem,(z0 0),(z0 1),(z0 2),(z0 3),(z0 4),(z0 5),(z0 6),(z0 7),(z0 8),(z0 9),(z0 10)]) rfl ?_
 exact⟨A2,k2,R2,rfl,HL2.out,HO3.out.set11 br (by decide) (by decide) _ _ _ _ _ _ _ _ _ _ _,BM HB2.out (Mm _) _ _ _ _ _ _ _ _ _ _ _⟩
theorem zn (B:Option Addr) (Rs:List Rm) (k:Nat) (c:Cfg) (n:Int) (w:World) (hB:RunsAt w B Rs) (hl:Rs.length<=1000000) (hrs:∀r∈Rs,r.l.length<=1000000):
  Calls prog 28 #[.agg (eH c B Rs.length k n)] w (BV c (aB Rs) n w):=by
 obtain⟨W0,hW0⟩:∃W0,(w.alloc (.cells #[.int .u8 c.tag,.int .i64 c.most,.int .i64 c.seg,.int .i64 c.least,.int .i64 c.den,.int .i64 c.leafLow,.int .i64 c.rootLow,.int .i64 c.rootHigh,.int .i64 c.leafHigh,.slice B Rs.length k,.int .u64 n] 40)).alloc (.cells #[.int .u8 0,.int .i64 0,.int .i64 0,.int .i64 0,.int .i64 0,.int .i64 0,.int .i64 0,.int .i64 0,.int .i64 0,.slice none 0 0,.int .u64 0] 40)=W0:=⟨_,rfl⟩
 have hb0:Below w.heap.size w W0:=by rw[<-hW0];exact((KR _ _).alloc (KS _) _).alloc (by simp) _
 have b0:Blk W0 w.heap.size 40 #[.int .u8 c.tag,.int .i64 c.most,.int .i64 c.seg,.int .i64 c.least,.int .i64 c.den,.int .i64 c.leafLow,.int .i64 c.rootLow,.int .i64 c.rootHigh,.int .i64 c.leafHigh,.slice B Rs.length k,.int .u64 n]:=by rw[<-hW0];exact(Blk.new _ _ _).alloc _
 have br0:Blk W0 (w.heap.size+1) 40 #[.int .u8 0,.int .i64 0,.int .i64 0,.int .i64 0,.int .i64 0,.int .i64 0,.int .i64 0,.int .i64 0,.int .i64 0,.slice none 0 0,.int .u64 0]:=by
  rw[<-hW0]
  have:=Blk.new (w.alloc (.cells #[.int .u8 c.tag,.int .i64 c.most,.int .i64 c.seg,.int .i64 c.least,.int .i64 c.den,.int .i64 c.leafLow,.int .i64 c.rootLow,.int .i64 c.rootHigh,.int .i64 c.leafHigh,.slice B Rs.length k,.int .u64 n] 40)) 40 #[.int .u8 0,.int .i64 0,.int .i64 0,.int .i64 0,.int .i64 0,.int .i64 0,.int .i64 0,.int .i64 0,.int .i64 0,.slice none 0 0,.int .u64 0]
  rwa [KX]at this
 have HW0:=KO hW0
 have HB:=KO (hB.below hb0)
 have HB0:=KO hb0
 have HC0:=KO b0
 have HR0:=KO br0
 have HB:=KO hB
 have HHR:=KO hrs
 clear hW0 hB hrs
 have q0:=b0.cell
 have y0:=br0.cell
 have fr0:=br0.frozen
 have l1:=b0.lt
 have l2:=br0.lt
 go_enter func28,ntmps28
 go_upto_region 1 with fail
 rw[HW0.out]
 go_region_with (go_at_call 52;refine(AV B Rs k n _ (HB.out.below (aa hb0 (by first|exact(KR _ _).drew|exact KR _ _))) hl HHR.out).mono ?_;rintro e w5 ⟨A2,k2,R2,rfl,h51,h52,hb5⟩;have hb6:Below W0.heap.size W0 w5:=(by first|exact hb5|exact aa ((KR _ _).drew) hb5);have d0:w5.cell? ⟨w.heap.size,0,none⟩=some (.int .u8 c.tag):=((aO hb6).1 _ _ l1).trans (q0 0);have d1:w5.cell? ⟨w.heap.size,1,none⟩=some (.int .i64 c.most):=((aO hb6).1 _ _ l1).trans (q0 1);have d2:w5.cell? ⟨w.heap.size,2,none⟩=some (.int .i64 c.seg):=((aO hb6).1 _ _ l1).trans (q0 2);have d3:w5.cell? ⟨w.heap.size,3,none⟩=some (.int .i64 c.least):=((aO hb6).1 _ _ l1).trans (q0 3);have d4:w5.cell? ⟨w.heap.size,4,none⟩=some (.int .i64 c.den):=((aO hb6).1 _ _ l1).trans (q0 4);have d5:w5.cell? ⟨w.heap.size,5,none⟩=some (.int .i64 c.leafLow):=((aO hb6).1 _ _ l1).trans (q0 5);have d6:w5.cell? ⟨w.heap.size,6,none⟩=some (.int .i64 c.rootLow):=((aO hb6).1 _ _ l1).trans (q0 6);have d7:w5.cell? ⟨w.heap.size,7,none⟩=some (.int .i64 c.rootHigh):=((aO hb6).1 _ _ l1).trans (q0 7);have d8:w5.cell? ⟨w.heap.size,8,none⟩=some (.int .i64 c.leafHigh):=((aO hb6).1 _ _ l1).trans (q0 8);have d9:w5.cell? ⟨w.heap.size,9,none⟩=some (.slice B Rs.length k):=((aO hb6).1 _ _ l1).trans (q0 9);have d10:w5.cell? ⟨w.heap.size,10,none⟩=some (.int .u64 n):=((aO hb6).1 _ _ l1).trans (q0 10);have b25:=br0.below hb6 l2;have e0:w5.cell? ⟨w.heap.size+1,0,none⟩=some (.int .u8 0):=b25.cell 0;have e1:w5.cell? ⟨w.heap.size+1,1,none⟩=some (.int .i64 0):=b25.cell 1;have e2:w5.cell? ⟨w.heap.size+1,2,none⟩=some (.int .i64 0):=b25.cell 2;have e3:w5.cell? ⟨w.heap.size+1,3,none⟩=some (.int .i64 0):=b25.cell 3;have e4:w5.cell? ⟨w.heap.size+1,4,none⟩=some (.int .i64 0):=b25.cell 4;have e5:w5.cell? ⟨w.heap.size+1,5,none⟩=some (.int .i64 0):=b25.cell 5;have e6:w5.cell? ⟨w.heap.size+1,6,none⟩=some (.int .i64 0):=b25.cell 6;have e7:w5.cell? ⟨w.heap.size+1,7,none⟩=some (.int .i64 0):=b25.cell 7;have e8:w5.cell? ⟨w.heap.size+1,8,none⟩=some (.int .i64 0):=b25.cell 8;have e9:w5.cell? ⟨w.heap.size+1,9,none⟩=some (.slice none 0 0):=b25.cell 9;have e10:w5.cell? ⟨w.heap.size+1,10,none⟩=some (.int .u64 0):=b25.cell 10;have ef0:=b25.frozen 0;have ef1:=b25.frozen 1;have ef2:=b25.frozen 2;have ef3:=b25.frozen 3;have ef4:=b25.frozen 4;have ef5:=b25.frozen 5;have ef6:=b25.frozen 6;have ef7:=b25.frozen 7;have ef8:=b25.frozen 8;have ef9:=b25.frozen 9;have ef10:=b25.frozen 10;have H51:=KO h51;have H52:=KO h52;have H6:=KO hb6;clear h51 h52 hb5 hb6)
 all_goals
  go_wp2_with fail
  have bz:=I9 b25 (.int .u8 c.tag) (.int .i64 c.most) (.int .i64 c.seg) (.int .i64 c.least) (.int .i64 c.den) (.int .i64 c.leafLow) (.int .i64 c.rootLow) (.int .i64 c.rootHigh) (.int .i64 c.leafHigh) (.slice A2 R2.length k2) (.int .u64 n)
  have z0:=bz.cell
  simp only[LG,Lb,La]at z0
  refine KV (v:= .agg #[.int .u8 c.tag,.int .i64 c.most,.int .i64 c.seg,.int .i64 c.least,.int .i64 c.den,.int .i64 c.leafLow,.int .i64 c.rootLow,.int .i64 c.rootHigh,.int .i64 c.leafHigh,.slice A2 R2.length k2,.int .u64 n]) (by simp[results,results28,go_sem,(z0 0),(z0 1),(z0 2),(z0 3),(z0 4),(z0 5),(z0 6),(z0 7),(z0 8),(z0 9),(z0 10)]) rfl ?_
  exact⟨A2,k2,R2,rfl,H51.out,(H52.out.mono (aa hb0 (KR _ _)).size).set11 b25 (by decide) (by decide) _ _ _ _ _ _ _ _ _ _ _,BM (aa hb0 H6.out) (Mm _) _ _ _ _ _ _ _ _ _ _ _⟩
theorem vo (B:Option Addr) (Rs:List Rm) (k:Nat) (c:Cfg) (n:Int) (w:World) (hB:RunsAt w B Rs) (hT:tot (aB Rs)<=1000000) (hl:Rs.length<=1000000) (hc:fE (aB Rs)=0):
  Calls prog 90 #[.agg (eH c B Rs.length k n)] w (dW 55 2 (jK (aB Rs)).length ((jK (aB Rs)).flatMap Pr.cells) w):=by
 obtain⟨W0,hW0⟩:∃W0,w.alloc (.cells #[.int .u8 c.tag,.int .i64 c.most,.int .i64 c.seg,.int .i64 c.least,.int .i64 c.den,.int .i64 c.leafLow,.int .i64 c.rootLow,.int .i64 c.rootHigh,.int .i64 c.leafHigh,.slice B Rs.length k,.int .u64 n] 40)=W0:=⟨_,rfl⟩
 have hb0:Below w.heap.size w W0:=by rw[<-hW0];exact(KR _ _).alloc (KS _) _
 have b0:Blk W0 w.heap.size 40 #[.int .u8 c.tag,.int .i64 c.most,.int .i64 c.seg,.int .i64 c.least,.int .i64 c.den,.int .i64 c.leafLow,.int .i64 c.rootLow,.int .i64 c.rootHigh,.int .i64 c.leafHigh,.slice B Rs.length k,.int .u64 n]:=by rw[<-hW0];exact Blk.new _ _ _
 have HW0:=KO hW0
 have HB:=KO (hB.below hb0)
 have HB0:=KO hb0
 have HC0:=KO b0
 have hp:jK (aB Rs)=au (bM (iJ Rs)):=by unfold jK;rw[if_pos hc,DJ]
 have hal:=Ea B Rs k n W0 HB.out hl (Jb (lN.1 hc)).1 hT
 rw[<-hp]at hal
 obtain⟨P,hP⟩:∃P,jK (aB Rs)=P:=⟨_,rfl⟩
 rw[hP]at hal
 rw[hP]
 have HAL:=KO hal
 clear hW0 hB hal hp hP hc
 have q0:=b0.cell
 clear b0
 go_enter func90,ntmps90
 go_upto_region 1 with fail
 rw[HW0.out]
 go_wp2_with fail
 refine HAL.out.mono ?_
 rintro e w1 ⟨A1,c1,rfl,ho1,hb1⟩
 have HO1:=KO (av ho1 HB0.out.size)
 have HB1:=KO (aa HB0.out hb1)
 clear ho1 hb1 q0
 go_wp2
 go_ret
 exact⟨A1,c1,rfl,HO1.out,HB1.out⟩
theorem Ij {c:Cfg} {L:Lv} {V:Int} (h:jw c L=V):(lW c=false->V=50)/\(lW c=true->kg L=false->V=8)/\(lW c=true->kg L=true->((c.most< (jK L).length∨2*((jK L).length:Int)+2< (tot L:Int))->V=8)/\(((jK L).length:Int)<=c.most->(tot L:Int)<=2*((jK L).length:Int)+2->V=0)):=by
 unfold jw iP at h
 have hm:=xM L
 refine⟨fun h1=>?_,fun h1 h2=>?_,fun h1 h2=>⟨fun h3=>?_,fun h3 h4=>?_⟩⟩
 ·rw[h1]at h;simpa using h.symm
 ·rw[h2]at hm
  rw[h1,if_pos rfl,if_pos rfl,if_neg (fun h5=>by rw[hm]at h5;simp at h5)]at h
  exact h.symm
 ·rw[h2]at hm
  rw[h1,if_pos rfl,if_pos rfl,if_neg (fun h5=>by omega)]at h
  exact h.symm
 ·rw[h2]at hm
  rw[h1,if_pos rfl,if_pos rfl,if_pos ⟨by rw[hm];rfl,h3,by omega⟩]at h
  exact h.symm
theorem xE (B:Option Addr) (Rs:List Rm) (k:Nat) (c:Cfg) (n:Int) (w:World) (hB:RunsAt w B Rs) (hT:tot (aB Rs)<=1000000) (hl:Rs.length<=1000000):
  Calls prog 102 #[.agg (eH c B Rs.length k n)] w fun r w'=>r= .returned (.int .i64 (jw c (aB Rs)))/\Below w.heap.size w w':=by
 obtain⟨W0,hW0⟩:∃W0,w.alloc (.cells #[.int .u8 c.tag,.int .i64 c.most,.int .i64 c.seg,.int .i64 c.least,.int .i64 c.den,.int .i64 c.leafLow,.int .i64 c.rootLow,.int .i64 c.rootHigh,.int .i64 c.leafHigh,.slice B Rs.length k,.int .u64 n] 40)=W0:=⟨_,rfl⟩
 have hb0:Below w.heap.size w W0:=by rw[<-hW0];exact(KR _ _).alloc (KS _) _
 have b0:Blk W0 w.heap.size 40 #[.int .u8 c.tag,.int .i64 c.most,.int .i64 c.seg,.int .i64 c.least,.int .i64 c.den,.int .i64 c.leafLow,.int .i64 c.rootLow,.int .i64 c.rootHigh,.int .i64 c.leafHigh,.slice B Rs.length k,.int .u64 n]:=by rw[<-hW0];exact Blk.new _ _ _
 have HW0:=KO hW0
 have HB:=KO (hB.below hb0)
 have HB0:=KO hb0
 have HC0:=KO b0
 have hmy:=fun W=>uZ c W
 have hm6:=fun W (hW:Below W0.heap.size W0 W)=>Dc B Rs k n W (HB.out.below hW) hT hl
 have hen:=fun W (hW:Below W0.heap.size W0 W)=>mo B Rs k n W (HB.out.below hW) hT hl
 have hal:=fun hc W (hW:Below W0.heap.size W0 W)=>vo B Rs k c n W (HB.out.below hW) hT hl hc
 obtain⟨V,hV⟩:∃V,jw c (aB Rs)=V:=⟨_,rfl⟩
 rw[hV]
 have hby:=Ij hV
 have hcm:=xM (aB Rs)
 have hPT:fE (aB Rs)=0->(jK (aB Rs)).length<=tot (aB Rs):=fun h=>by rw[vV h];exact vP
 obtain⟨K,hK⟩:∃K,lW c=K:=⟨_,rfl⟩
 obtain⟨M,hM⟩:∃M,kg (aB Rs)=M:=⟨_,rfl⟩
 obtain⟨P,hP⟩:∃P,jK (aB Rs)=P:=⟨_,rfl⟩
 obtain⟨T,hTT⟩:∃T,tot (aB Rs)=T:=⟨_,rfl⟩
 rw[hK]at hmy hby
 rw[hM]at hm6 hby hcm
 rw[hP]at hal hby hPT
 rw[hTT]at hen hby hPT hT
 have HMY:=KO hmy
 have HM6:=KO hm6
 have HEN:=KO hen
 have HAL:=KO hal
 have HBY:=KO hby
 have HCM:=KO hcm
 have HPT:=KO hPT
 clear hW0 hB hmy hm6 hen hal hby hcm hV hK hM hP hTT hPT
 have q0:=b0.cell
 clear b0
 go_enter func102,ntmps102
 go_upto_region 1 with fail
 rw[HW0.out]
 go_wp2_with fail
 refine(HMY.out _).mono ?_
 rintro e w1 ⟨rfl,hb1⟩
 have HBX:=KO (aa HB0.out hb1)
 have b1:=HC0.out.below hb1 HC0.out.lt
 have HC1:=KO b1
 have HS1:=KO hb1
 clear hb1 hb0 q0
 have q0:=b1.cell
 clear b1
 cases K with
 |false=>
  have HF:=KO (HBY.out.1 rfl)
  go_wp2_with fail
  go_ret
  exact⟨by rw[HF.out];rfl,HBX.out⟩
 |true=>
 go_wp2_with fail
 refine(HM6.out _ HS1.out).mono ?_
 rintro e w2 ⟨rfl,hb2⟩
 have HBX:=KO (aa HBX.out hb2)
 have b2:=HC1.out.below hb2 HC1.out.lt
 have HC2:=KO b2
 have HS2:=KO (aa HS1.out hb2)
 clear hb2 q0
 have q0:=b2.cell
 clear b2
 cases M with
 |false=>
  have HF:=KO (HBY.out.2.1 (by first|trivial|rfl) (by first|trivial|rfl))
  go_wp2_with fail
  go_ret
  exact⟨by rw[HF.out];rfl,HBX.out⟩
 |true=>
 have hc0:fE (aB Rs)=0:=HCM.out
 have hpt:=HPT.out hc0
 go_wp2_with fail
 refine(HAL.out hc0 _ HS2.out).mono ?_
 clear hc0
 rintro e w3 ⟨A3,c3,rfl,ho3,hb3⟩
 have HBX:=KO (aa HBX.out hb3)
 have b3:=HC2.out.below hb3 HC2.out.lt
 have HC3:=KO b3
 have HS3:=KO (aa HS2.out hb3)
 clear hb3 ho3 q0
 have q0:=b3.cell
 clear b3
 have hv:=HBY.out.2.2 (by first|trivial|rfl) (by first|trivial|rfl)
 have HV:=KO hv
 clear hv
 by_cases h1:c.most< (P.length:Int)
 ·have HF:=KO (HV.out.1 (.inl h1))
  go_wp2_with fail
  go_ret
  exact⟨by rw[HF.out];rfl,HBX.out⟩
 ·have hw1:IntKind.i64.wrap (2*(P.length:Int))=2*(P.length:Int):=KU _ (by omega)
  have hw2:IntKind.i64.wrap (2*(P.length:Int)+2)=2*(P.length:Int)+2:=KU _ (by omega)
  go_wp2_with fail
  refine(HEN.out _ HS3.out).mono ?_
  rintro e w4 ⟨rfl,hb4⟩
  have HBX:=KO (aa HBX.out hb4)
  clear hb4 q0
  by_cases h2:2*(P.length:Int)+2< (T:Int)
  ·have HF:=KO (HV.out.1 (.inr h2))
   go_wp2_with fail
   go_ret
   exact⟨by rw[HF.out];rfl,HBX.out⟩
  ·have HF:=KO (HV.out.2 (by omega) (by omega))
   go_wp2_with fail
   go_ret
   exact⟨by rw[HF.out];rfl,HBX.out⟩
structure Ix where
 lev:Int
 mx:List Int
 ct:List Int
 mA:Option Addr
 cA:Option Addr
 mc:Nat
 cc:Nat
abbrev Ix.row (x:Ix):Array Value:=#[.int .i64 x.lev,.slice x.mA x.mx.length x.mc,.slice x.cA x.ct.length x.cc]
structure IxAt (w:World) (x:Ix):Prop where
 maxes:Sl w x.mA (x.mx.map iv)
 cnts:Sl w x.cA (x.ct.map iv)
theorem IxAt.below {w w':World} {x:Ix} (h:IxAt w x) (hb:Below w.heap.size w w'):IxAt w' x:=⟨h.maxes.below hb,h.cnts.below hb⟩
structure IxOk (x:Ix):Prop where
 ml:x.mx.length<=600
 cl:x.ct.length<=600
def iE (x y:Ix):Bool:=decide (x.lev=y.lev)&&decide (x.mx=y.mx)&&decide (x.ct=y.ct)
abbrev cB (c:Cfg) (s:Ss):Array Value:=#[.int .u8 c.tag,.int .i64 c.most,.int .i64 c.seg,.int .i64 c.least,.int .i64 c.den,.int .i64 c.leafLow,.int .i64 c.rootLow,.int .i64 c.rootHigh,.int .i64 c.leafHigh,.int .i64 s.seg,.slice s.wA s.ws.length s.wc,.slice s.kA s.ks.length s.kc,.slice s.vA s.vs.length s.vc,.slice s.cA s.cs.length s.cc,.int .u64 s.laid]
def mg (c d:Cfg) (s t:Ss):Bool:=Jn c d&&iR s t
abbrev cK (c:Cfg) (s:Ss) (x:Ix):Array Value:=#[.int .u8 c.tag,.int .i64 c.most,.int .i64 c.seg,.int .i64 c.least,.int .i64 c.den,.int .i64 c.leafLow,.int .i64 c.rootLow,.int .i64 c.rootHigh,.int .i64 c.leafHigh,.int .i64 s.seg,.slice s.wA s.ws.length s.wc,.slice s.kA s.ks.length s.kc,.slice s.vA s.vs.length s.vc,.slice s.cA s.cs.length s.cc,.int .u64 s.laid,.int .i64 x.lev,.slice x.mA x.mx.length x.mc,.slice x.cA x.ct.length x.cc]
def mZ (c d:Cfg) (s t:Ss) (x y:Ix):Bool:=mg c d s t&&iE x y
theorem vL {f:FuncId} (hf:f=107∨f=60) (x y:Ix) (w:World) (hs:IxAt w x) (ht:IxAt w y) (ho:IxOk x) (hp:IxOk y):
  Calls prog f #[.agg x.row,.agg y.row] w fun r w'=>r= .returned (.bool (iE x y))/\Below w.heap.size w w':=by
 obtain⟨U,HU,HB0,hh,q1,q2⟩:=Kv w 33 x.row 33 y.row
 have K0:=KO (fun W (h:Below U.heap.size U W)=>vG x.mA y.mA x.mx y.mx x.mc y.mc W ((hs.below HB0.out).below h).maxes ((ht.below HB0.out).below h).maxes (by have:=ho.ml;omega) (by have:=hp.ml;omega))
 have J0:=KO (fun W (h:Below U.heap.size U W)=>jY x.mA y.mA x.mx y.mx x.mc y.mc W ((hs.below HB0.out).below h).maxes ((ht.below HB0.out).below h).maxes (by have:=ho.ml;omega) (by have:=hp.ml;omega))
 have K1:=KO (fun W (h:Below U.heap.size U W)=>CQ x.cA y.cA x.ct y.ct x.cc y.cc W ((hs.below HB0.out).below h).cnts ((ht.below HB0.out).below h).cnts (by have:=ho.cl;omega) (by have:=hp.cl;omega))
 have J1:=KO (fun W (h:Below U.heap.size U W)=>nQ x.cA y.cA x.ct y.ct x.cc y.cc W ((hs.below HB0.out).below h).cnts ((ht.below HB0.out).below h).cnts (by have:=ho.cl;omega) (by have:=hp.cl;omega))
 obtain⟨R,hR⟩:∃R,(iE x y)=R:=⟨_,rfl⟩
 rw[hR]
 unfold iE at hR
 obtain⟨E0,hE⟩:∃b,decide (x.mx=y.mx)=b:=⟨_,rfl⟩
 rw[hE]at K0 J0 hR
 clear hE
 obtain⟨E1,hE⟩:∃b,decide (x.ct=y.ct)=b:=⟨_,rfl⟩
 rw[hE]at K1 J1 hR
 clear hE
 have HR:=KO hR
 clear hR hs ht ho hp
 rcases hf with rfl|rfl
 ·go_enter func107,ntmps107
  exact jd
 ·go_enter func60,ntmps60
  exact jd
theorem wC {f:FuncId} (hf:f=92∨f=37) (c d:Cfg) (s t:Ss) (w:World) (hs:SsAt w s) (ht:SsAt w t) (ho:SsOk s) (hp:SsOk t):
  Calls prog f #[.agg (cB c s),.agg (cB d t)] w fun r w'=>r= .returned (.bool (mg c d s t))/\Below w.heap.size w w':=by
 obtain⟨U,HU,HB0,hh,q1,q2⟩:=Kv w 31 (cB c s) 31 (cB d t)
 have K0:=KO (fun W (h:Below U.heap.size U W)=>Fw (.inl rfl) s t W ((hs.below HB0.out).below h) ((ht.below HB0.out).below h) ho hp)
 have J0:=KO (fun W (h:Below U.heap.size U W)=>Fw (.inr rfl) s t W ((hs.below HB0.out).below h) ((ht.below HB0.out).below h) ho hp)
 obtain⟨R,hR⟩:∃R,(mg c d s t)=R:=⟨_,rfl⟩
 rw[hR]
 unfold mg at hR
 obtain⟨E0,hE⟩:∃b,iR s t=b:=⟨_,rfl⟩
 rw[hE]at K0 J0 hR
 clear hE
 have heq:=fun W=>pV c d W
 obtain⟨E1,hE⟩:∃b,Jn c d=b:=⟨_,rfl⟩
 rw[hE]at heq hR
 clear hE
 have HR:=KO hR
 clear hR hs ht ho hp
 rcases hf with rfl|rfl
 ·go_enter func92,ntmps92
  exact jd
 ·go_enter func37,ntmps37
  exact jd
theorem Ch {f:FuncId} (hf:f=93∨f=38) (c d:Cfg) (s t:Ss) (x y:Ix) (w:World) (hs:SsAt w s) (ht:SsAt w t) (hx:IxAt w x) (hy:IxAt w y) (ho:SsOk s) (hp:SsOk t) (hq:IxOk x) (hr:IxOk y):
  Calls prog f #[.agg (cK c s x),.agg (cK d t y)] w fun r w'=>r= .returned (.bool (mZ c d s t x y))/\Below w.heap.size w w':=by
 obtain⟨U,HU,HB0,hh,q1,q2⟩:=Kv w 35 (cK c s x) 35 (cK d t y)
 have K0:=KO (fun W (h:Below U.heap.size U W)=>wC (.inl rfl) c d s t W ((hs.below HB0.out).below h) ((ht.below HB0.out).below h) ho hp)
 have J0:=KO (fun W (h:Below U.heap.size U W)=>wC (.inr rfl) c d s t W ((hs.below HB0.out).below h) ((ht.below HB0.out).below h) ho hp)
 have K1:=KO (fun W (h:Below U.heap.size U W)=>vL (.inl rfl) x y W ((hx.below HB0.out).below h) ((hy.below HB0.out).below h) hq hr)
 have J1:=KO (fun W (h:Below U.heap.size U W)=>vL (.inr rfl) x y W ((hx.below HB0.out).below h) ((hy.below HB0.out).below h) hq hr)
 obtain⟨R,hR⟩:∃R,(mZ c d s t x y)=R:=⟨_,rfl⟩
 rw[hR]
 unfold mZ at hR
 obtain⟨E0,hE⟩:∃b,mg c d s t=b:=⟨_,rfl⟩
 rw[hE]at K0 J0 hR
 clear hE
 obtain⟨E1,hE⟩:∃b,iE x y=b:=⟨_,rfl⟩
 rw[hE]at K1 J1 hR
 clear hE
 have HR:=KO hR
 clear hR hs ht hx hy ho hp hq hr
 rcases hf with rfl|rfl
 ·go_enter func93,ntmps93
  exact jd
 ·go_enter func38,ntmps38
  exact jd
theorem pF (c:Cfg) (s:Ss) (w:World):
  Calls prog 23 #[.agg (cB c s),.int .i64 300] w fun r w'=>r= .returned (.bool (gq s))/\Below w.heap.size w w':=by
 obtain⟨U,HU,HB0,hh,q1⟩:=bx1 w 31 (cB c s)
 have K0:=KO (fun W (h:Below U.heap.size U W)=>yg s W)
 obtain⟨R,hR⟩:∃R,(gq s)=R:=⟨_,rfl⟩
 rw[hR]
 obtain⟨E0,hE⟩:∃b,gq s=b:=⟨_,rfl⟩
 rw[hE]at K0 hR
 clear hE
 have HR:=KO hR
 clear hR
 go_enter func23,ntmps23
 exact jd
def kR (x:Ix):Bool:=decide (600< x.mx.length)||decide (600< x.ct.length)
theorem yK (x:Ix) (w:World):
  Calls prog 48 #[.agg x.row] w fun r w'=>r= .returned (.bool (kR x))/\Below w.heap.size w w':=by
 obtain⟨U,HU,HB0,hh,q1⟩:=bx1 w 33 x.row
 obtain⟨R,hR⟩:∃R,(kR x)=R:=⟨_,rfl⟩
 rw[hR]
 unfold kR at hR
 have HR:=KO hR
 clear hR
 go_enter func48,ntmps48
 exact jd
theorem yC (c:Cfg) (s:Ss) (x:Ix) (w:World):
  Calls prog 24 #[.agg (cK c s x),.int .i64 300] w fun r w'=>r= .returned (.bool (gq s||kR x))/\Below w.heap.size w w':=by
 obtain⟨U,HU,HB0,hh,q1⟩:=bx1 w 35 (cK c s x)
 have K0:=KO (fun W (h:Below U.heap.size U W)=>pF c s W)
 have K1:=KO (fun W (h:Below U.heap.size U W)=>yK x W)
 obtain⟨R,hR⟩:∃R,(gq s||kR x)=R:=⟨_,rfl⟩
 rw[hR]
 obtain⟨E0,hE⟩:∃b,gq s=b:=⟨_,rfl⟩
 rw[hE]at K0 hR
 clear hE
 obtain⟨E1,hE⟩:∃b,kR x=b:=⟨_,rfl⟩
 rw[hE]at K1 hR
 clear hE
 have HR:=KO hR
 clear hR
 go_enter func24,ntmps24
 exact jd
theorem ae {w:World} {g:Nat} {t:TypeId} {row:Array Value} {cs:List Value} (h:Blk w g t row) (o n:Nat) (hc:(row.toList.drop o).take n=cs):w.rangeAt g o cs:=by
 intro j v hv
 rw[h.cell,<-hv,<-hc,MB]
 by_cases hj:j< n
 ·rw[if_pos hj,List.getElem?_drop,Array.getElem?_toList]
 ·rw[<-hc,MB,if_neg hj]at hv;cases hv
theorem bK:(prog.info? 31).map (·.size)=some 15:=by kernel_rfl
theorem iy:(prog.info? 35).map (·.size)=some 18:=by kernel_rfl
theorem iq:(prog.info? 40).map (·.size)=some 11:=by kernel_rfl
theorem Jj:ES prog 31 15:=⟨_,underlying31,rfl,bK⟩
theorem I1:ES prog 35 18:=⟨_,underlying35,rfl,iy⟩
theorem Je:ES prog 40 11:=⟨_,underlying40,rfl,iq⟩
structure Mv where
 tag:Int
 ver:Int
 pc:Cfg
 ps:Ss
 bc:Cfg
 bs:Ss
 bx:Ix
 lc:Cfg
 lB:Option Addr
 lR:List Rm
 lk:Nat
 ln:Int
abbrev Mv.row (m : Mv) : Array Value := #[.int .u8 m.tag, .int .u64 m.ver, .int .u8 m.pc.tag, .int .i64 m.pc.most, .int .i64 m.pc.seg, .int .i64 m.pc.least, .int .i64 m.pc.den, .int .i64 m.pc.leafLow, .int .i64 m.pc.rootLow, .int .i64 m.pc.rootHigh, .int .i64 m.pc.leafHigh, .int .i64 m.ps.seg, .slice m.ps.wA m.ps.ws.length m.ps.wc, .slice m.ps.kA m.ps.ks.length m.ps.kc, .slice m.ps.vA m.ps.vs.length m.ps.vc, .slice m.ps.cA m.ps.cs.length m.ps.cc, .int .u64 m.ps.laid, .int .u8 m.bc.tag, .int .i64 m.bc.most, .int .i64 m.bc.seg, .int .i64 m.bc.least, .int .i64 m.bc.den, .int .i64 m.bc.leafLow, .int .i64 m.bc.rootLow, .int .i64 m.bc.rootHigh, .int .i64 m.bc.leafHigh, .int .i64 m.bs.seg, .slice m.bs.wA m.bs.ws.length m.bs.wc, .slice m.bs.kA m.bs.ks.length m.bs.kc, .slice m.bs.vA m.bs.vs.length m.bs.vc, .slice m.bs.cA m.bs.cs.length m.bs.cc, .int .u64 m.bs.laid, .int .i64 m.bx.lev, .slice m.bx.mA m.bx.mx.length m.bx.mc, .slice m.bx.cA m.bx.ct.length m.bx.cc, .int .u8 m.lc.tag, .int .i64 m.lc.most, .int .i64 m.lc.seg, .int .i64 m.lc.least, .int .i64 m.lc.den, .int .i64 m.lc.leafLow, .int .i64 m.lc.rootLow, .int .i64 m.lc.rootHigh, .int .i64 m.lc.leafHigh, .slice m.lB m.lR.length m.lk, .int .u64 m.ln]
structure MvAt (w:World) (m:Mv):Prop where
 pma:SsAt w m.ps
 cob:SsAt w m.bs
 ix:IxAt w m.bx
 log:RunsAt w m.lB m.lR
theorem MvAt.below {w w':World} {m:Mv} (h:MvAt w m) (hb:Below w.heap.size w w'):MvAt w' m:=⟨h.pma.below hb,h.cob.below hb,h.ix.below hb,RunsAt.below h.log hb⟩
structure MvOk (m:Mv):Prop where
 pma:SsOk m.ps
 cob:SsOk m.bs
 ix:IxOk m.bx
 log:m.lR.length+tot (aB m.lR)<=300
theorem gG {Rs:List Rm} (h1:Rs.length+tot (aB Rs)<=300):Rs.length<=1000000/\∀r∈Rs,r.l.length<=1000000:=by
 refine⟨by omega,fun r hr=>?_⟩
 have h5:=Az (List.mem_map.2 ⟨r.l,List.mem_map.2 ⟨r,hr,rfl⟩,rfl⟩:r.l.length∈((aB Rs).map List.length))
 unfold tot at h1
 omega
def fM (m n:Mv):Bool:=decide (m.tag=n.tag)&&decide (m.ver=n.ver)&&mg m.pc n.pc m.ps n.ps&&mZ m.bc n.bc m.bs n.bs m.bx n.bx&&rY m.lc n.lc m.ln n.ln (aB m.lR) (aB n.lR)
theorem zZ {f:FuncId} (hf:f=80∨f=10) (m n:Mv) (w:World) (hs:MvAt w m) (ht:MvAt w n) (ho:MvOk m) (hp:MvOk n):
  Calls prog f #[.agg m.row,.agg n.row] w fun r w'=>r= .returned (.bool (fM m n))/\Below w.heap.size w w':=by
 obtain⟨U,HU,HB0,hh,q1,q2⟩:=Kv w 42 m.row 42 n.row
 have K0:=KO (fun W (h:Below U.heap.size U W)=>wC (.inl rfl) m.pc n.pc m.ps n.ps W ((hs.below HB0.out).below h).pma ((ht.below HB0.out).below h).pma ho.pma hp.pma)
 have J0:=KO (fun W (h:Below U.heap.size U W)=>wC (.inr rfl) m.pc n.pc m.ps n.ps W ((hs.below HB0.out).below h).pma ((ht.below HB0.out).below h).pma ho.pma hp.pma)
 have K1:=KO (fun W (h:Below U.heap.size U W)=>Ch (.inl rfl) m.bc n.bc m.bs n.bs m.bx n.bx W ((hs.below HB0.out).below h).cob ((ht.below HB0.out).below h).cob ((hs.below HB0.out).below h).ix ((ht.below HB0.out).below h).ix ho.cob hp.cob ho.ix hp.ix)
 have J1:=KO (fun W (h:Below U.heap.size U W)=>Ch (.inr rfl) m.bc n.bc m.bs n.bs m.bx n.bx W ((hs.below HB0.out).below h).cob ((ht.below HB0.out).below h).cob ((hs.below HB0.out).below h).ix ((ht.below HB0.out).below h).ix ho.cob hp.cob ho.ix hp.ix)
 have K2:=KO (fun W (h:Below U.heap.size U W)=>Db m.lc n.lc m.lB n.lB m.lR n.lR m.lR.length n.lR.length m.lk n.lk m.ln n.ln W rfl rfl ((hs.below HB0.out).below h).log ((ht.below HB0.out).below h).log (gG ho.log).1 (gG ho.log).2 (gG hp.log).2)
 have J2:=KO (fun W (h:Below U.heap.size U W)=>Bh m.lc n.lc m.lB n.lB m.lR n.lR m.lR.length n.lR.length m.lk n.lk m.ln n.ln W rfl rfl ((hs.below HB0.out).below h).log ((ht.below HB0.out).below h).log (gG ho.log).1 (gG ho.log).2 (gG hp.log).2)
 obtain⟨R,hR⟩:∃R,(fM m n)=R:=⟨_,rfl⟩
 rw[hR]
 unfold fM at hR
 obtain⟨E0,hE⟩:∃b,mg m.pc n.pc m.ps n.ps=b:=⟨_,rfl⟩
 rw[hE]at K0 J0 hR
 clear hE
 obtain⟨E1,hE⟩:∃b,mZ m.bc n.bc m.bs n.bs m.bx n.bx=b:=⟨_,rfl⟩
 rw[hE]at K1 J1 hR
 clear hE
 obtain⟨E2,hE⟩:∃b,rY m.lc n.lc m.ln n.ln (aB m.lR) (aB n.lR)=b:=⟨_,rfl⟩
 rw[hE]at K2 J2 hR
 clear hE
 have p1:=JY q1 2 (cB m.pc m.ps) Jj rfl
 have p2:=JY q1 17 (cK m.bc m.bs m.bx) I1 rfl
 have p3:=JY q1 35 (eH m.lc m.lB m.lR.length m.lk m.ln) Je rfl
 have p4:=JY q2 2 (cB n.pc n.ps) Jj rfl
 have p5:=JY q2 17 (cK n.bc n.bs n.bx) I1 rfl
 have p6:=JY q2 35 (eH n.lc n.lB n.lR.length n.lk n.ln) Je rfl
 have HR:=KO hR
 clear hR hs ht ho hp
 rcases hf with rfl|rfl
 ·go_enter func80,ntmps80
  exact jd
 ·go_enter func10,ntmps10
  exact jd
structure IxLike (s t:Ix):Prop where
 lev:t.lev=s.lev
 mx:t.mx=s.mx
 ct:t.ct=s.ct
def Cy (s:Ix) (w:World) (r:Ending) (w':World):Prop:=∃s2:Ix,r= .returned (.agg s2.row)/\IxLike s s2/\Held (fun k=>k< w.heap.size) (fun W=>IxAt W s2) w'/\Below w.heap.size w w'
theorem Kz {w:World} {g:Nat} {S:Nat->Prop} (h:S g) (a b c:Value):Mod S w (((w.setCell ⟨g,0,none⟩ a).setCell ⟨g,1,none⟩ b).setCell ⟨g,2,none⟩ c):=(((Mod.refl S w).setCell (p:=⟨g,0,none⟩) h _).setCell (p:=⟨g,1,none⟩) h _).setCell (p:=⟨g,2,none⟩) h _
theorem KD {B g:Nat} {a w:World} (h:Below B a w) (hg:B<=g) (x0 x1 x2:Value):Below B a (((w.setCell ⟨g,0,none⟩ x0).setCell ⟨g,1,none⟩ x1).setCell ⟨g,2,none⟩ x2):=((h.setCell (p:=⟨g,0,none⟩) hg _).setCell (p:=⟨g,1,none⟩) hg _).setCell (p:=⟨g,2,none⟩) hg _
theorem jh {P:Prop} (h:P:=by
  iterate 14 apply Exists.intro
  refine⟨rfl,?_,?_,?_,?_,?_,?_,?_,?_,?_,?_,?_,?_,?_,?_,?_⟩
  ·first|exact HB.out|exact aa HB.out hb1|exact HB.out.setCell (p:=⟨w.heap.size,1,none⟩) (KS _) _|exact HB.out.setCell (p:=⟨w.heap.size,2,none⟩) (KS _) _
  ·first|exact HBK.out|exact HBK.out.below hb1 HBK.out.lt|exact(by simpa using HBK.out.set_ 1 (.slice A0 x.mx.length c0))|exact(by simpa using HBK.out.set_ 2 (.slice A1 x.ct.length c1))
  ·first|exact HRS.out|exact HRS.out.below hb1 HRS.out.lt|exact(HRS.out.far (p:=⟨w.heap.size,1,none⟩) (by simp;done) _)|exact(HRS.out.far (p:=⟨w.heap.size,2,none⟩) (by simp;done) _)
  ·first|exact F0.out|exact fun _=>rfl
  ·first|exact F1.out|exact fun _=>rfl
  ·first|exact(fun h=>⟨(F2.out (by simpa using h)).1,(F2.out (by simpa using h)).2.step (dw (X:=(fun k=>k< w.heap.size+2)) (by show w.heap.size< w.heap.size+2;omega))⟩)|exact F2.out|exact fun _=>⟨rfl,hsl⟩|exact(fun h=>⟨(F2.out (by simpa using h)).1,(F2.out (by simpa using h)).2.ext hb1⟩)|exact(fun h=>⟨rfl,zz2.out.step (dw (X:=(fun k=>k< w.heap.size+2)) (by show w.heap.size< w.heap.size+2;omega))⟩)
  ·first|exact F3.out|exact fun _=>rfl
  ·first|exact F4.out|exact fun _=>rfl
  ·first|exact(fun h=>⟨(F5.out (by simpa using h)).1,(F5.out (by simpa using h)).2.step (dw (X:=(fun k=>k< w.heap.size+2)) (by show w.heap.size< w.heap.size+2;omega))⟩)|exact F5.out|exact fun _=>⟨rfl,hsl⟩|exact(fun h=>⟨(F5.out (by simpa using h)).1,(F5.out (by simpa using h)).2.ext hb1⟩)|exact(fun h=>⟨rfl,zz5.out.step (dw (X:=(fun k=>k< w.heap.size+2)) (by show w.heap.size< w.heap.size+2;omega))⟩)
  ·first|exact F6.out|exact fun _=>rfl
  ·first|(intro h;have hh:=F7.out (by simpa using h);exact⟨hh.1,by simp[hh.2.1],by simp[hh.2.2]⟩;done)|exact(fun h=>absurd (by simpa using h) (by rw[hs0];exact KP))|exact(fun _=>⟨rfl,by simp[hl2],by simp[hlld]⟩)
  ·first|exact F8.out|exact fun _=>rfl
  ·first|(intro h;have hh:=F9.out (by simpa using h);exact⟨hh.1,by simp[hh.2.1],by simp[hh.2.2]⟩;done)|exact(fun h=>absurd (by simpa using h) (by rw[hs1];exact KP))|exact(fun _=>⟨rfl,by simp[hl5],by simp[hlld]⟩)
  ·first|exact O0.out|exact fun _=>rfl|(intro h;refine absurd h ?_;simp;done;done)
  ·first|exact O1.out|exact fun _=>rfl|(intro h;refine absurd h ?_;simp;done;done)):P:=h
theorem zA (x:Ix) (w:World) (hs:IxAt w x) (ho:IxOk x):Calls prog 110 #[.agg x.row] w (Cy x w):=by
 have HS:=KO hs
 have HO:=KO ho
 clear hs ho
 obtain⟨W0,hW0⟩:∃W0,(w.alloc (.cells x.row 33)).alloc (.cells #[.int .i64 0,.slice none 0 0,.slice none 0 0] 33)=W0:=⟨_,rfl⟩
 have hb0:Below w.heap.size w W0:=by rw[<-hW0];exact((KR _ _).alloc (KS _) _).alloc (by simp) _
 have b0:Blk W0 w.heap.size 33 #[.int .i64 x.lev,.slice x.mA x.mx.length x.mc,.slice x.cA x.ct.length x.cc]:=by rw[<-hW0];exact(Blk.new _ _ _).alloc _
 have br0:Blk W0 (w.heap.size+1) 33 #[.int .i64 0,.slice none 0 0,.slice none 0 0]:=by
  rw[<-hW0]
  have:=Blk.new (w.alloc (.cells x.row 33)) 33 #[.int .i64 0,.slice none 0 0,.slice none 0 0]
  rwa [KX]at this
 have HW0:=KO hW0
 have HB0:=KO hb0
 have HC0:=KO b0
 have HR0:=KO br0
 clear hW0 hb0 b0 br0
 go_enter func110,ntmps110
 go_upto_region 1 with fail
 rw[HW0.out]
 refine aH (by kernel_rfl) (by kernel_rfl) (fun L a W=>∃(t3 t4 t5 t6 t7 t8 t9 t10:Value) (A0 A1:Option Addr) (c0 c1:Nat) (x0 x1:Value),a=⟨#[(.agg x.row),(.pointer (some ⟨w.heap.size,0,none⟩)),(.pointer (some ⟨w.heap.size+1,0,none⟩)),t3,t4,t5,t6,t7,t8,t9,t10,undef],[]⟩/\Below w.heap.size w W/\Blk W w.heap.size 33 #[.int .i64 x.lev,x0,x1]/\Blk W (w.heap.size+1) 33 #[.int .i64 0,.slice none 0 0,.slice none 0 0]/\(L 0=true->t3= .pointer (some ⟨w.heap.size,1,none⟩))/\(L 1=true->t4= .slice x.mA x.mx.length x.mc)/\(L 2=true->t5= .slice A0 x.mx.length c0/\Held (fun k=>k< w.heap.size+2) (fun W=>Sl W A0 (x.mx.map iv)) W)/\(L 3=true->t6= .pointer (some ⟨w.heap.size,2,none⟩))/\(L 4=true->t7= .slice x.cA x.ct.length x.cc)/\(L 5=true->t8= .slice A1 x.ct.length c1/\Held (fun k=>k< w.heap.size+2) (fun W=>Sl W A1 (x.ct.map iv)) W)/\(L 6=true->t9= .pointer (some ⟨w.heap.size,1,none⟩))/\(L 7=true->x0= .slice A0 x.mx.length c0/\L 2=true/\L 1=true)/\(L 8=true->t10= .pointer (some ⟨w.heap.size,2,none⟩))/\(L 9=true->x1= .slice A1 x.ct.length c1/\L 5=true/\L 4=true)/\(L 7=false->x0= .slice x.mA x.mx.length x.mc)/\(L 9=false->x1= .slice x.cA x.ct.length x.cc)) ?h0 ?hstep ?hend
 case h0=>exact⟨undef,undef,undef,undef,undef,undef,undef,undef,none,none,0,0,.slice x.mA x.mx.length x.mc,.slice x.cA x.ct.length x.cc,rfl,HB0.out.drew,HC0.out,HR0.out,fun h=>absurd h KP,fun h=>absurd h KP,fun h=>absurd h KP,fun h=>absurd h KP,fun h=>absurd h KP,fun h=>absurd h KP,fun h=>absurd h KP,fun h=>absurd h KP,fun h=>absurd h KP,fun h=>absurd h KP,fun _=>rfl,fun _=>rfl⟩
 case hend=>
  rintro L a W hall ⟨t3,t4,t5,t6,t7,t8,t9,t10,A0,A1,c0,c1,x0,x1,rfl,hb,hbk,hrs,f0,f1,f2,f3,f4,f5,f6,f7,f8,f9,o0,o1⟩
  have z0:=f0 (hall 0 (by decide))
  have z1:=f1 (hall 1 (by decide))
  have z2:=f2 (hall 2 (by decide))
  have z3:=f3 (hall 3 (by decide))
  have z4:=f4 (hall 4 (by decide))
  have z5:=f5 (hall 5 (by decide))
  have z6:=f6 (hall 6 (by decide))
  have z7:=f7 (hall 7 (by decide))
  have z8:=f8 (hall 8 (by decide))
  have z9:=f9 (hall 9 (by decide))
  clear hall f0 f1 f2 f3 f4 f5 f6 f7 f8 f9 o0 o1
  obtain rfl:=z7.1
  obtain rfl:=z9.1
  have HE0:=KO z2.2
  have HE1:=KO z5.2
  have HBB:=KO hb
  clear z0 z1 z2 z3 z4 z5 z6 z7 z8 z9 hb
  have q0:W.cell? ⟨w.heap.size,0,none⟩=some (.int .i64 x.lev):=hbk.cell 0
  have q1:W.cell? ⟨w.heap.size,1,none⟩=some (.slice A0 x.mx.length c0):=hbk.cell 1
  have q2:W.cell? ⟨w.heap.size,2,none⟩=some (.slice A1 x.ct.length c1):=hbk.cell 2
  have p0:W.cell? ⟨w.heap.size+1,0,none⟩=some (.int .i64 0):=hrs.cell 0
  have r0:=hrs.frozen 0
  have p1:W.cell? ⟨w.heap.size+1,1,none⟩=some (.slice none 0 0):=hrs.cell 1
  have r1:=hrs.frozen 1
  have p2:W.cell? ⟨w.heap.size+1,2,none⟩=some (.slice none 0 0):=hrs.cell 2
  have r2:=hrs.frozen 2
  have lg:=hrs.lt
  have lg0:=hbk.lt
  clear hbk hrs
  go_wp2_with fail
  refine KV (v:= .agg #[.int .i64 x.lev,.slice A0 x.mx.length c0,.slice A1 x.ct.length c1]) (by simp[results,results110,go_sem,p0,p1,p2,q0,q1,q2]) rfl ?_
  refine⟨⟨x.lev,x.mx,x.ct,A0,A1,c0,c1⟩,rfl,⟨rfl,rfl,rfl⟩,?_,KD HBB.out (Mm _) _ _ _⟩
  exact Held.join (X:=(fun k=>k< w.heap.size+2)) (fun W2 h2=>⟨HE0.out W2 h2,HE1.out W2 h2⟩) (Kz (g:=w.heap.size+1) (S:=(fun k=>k< w.heap.size+2)) (by show w.heap.size+1< w.heap.size+2;omega) _ _ _) (fun k hk hx=>by show k< w.heap.size+2;have:k< w.heap.size:=hx;omega)
 case hstep=>
  rintro L a W i o ho hLi hdep ⟨t3,t4,t5,t6,t7,t8,t9,t10,A0,A1,c0,c1,x0,x1,rfl,hb,hbk,hrs,f0,f1,f2,f3,f4,f5,f6,f7,f8,f9,o0,o1⟩
  have F0:=KO f0
  have F1:=KO f1
  have F2:=KO f2
  have F3:=KO f3
  have F4:=KO f4
  have F5:=KO f5
  have F6:=KO f6
  have F7:=KO f7
  have F8:=KO f8
  have F9:=KO f9
  have O0:=KO o0
  have O1:=KO o1
  clear f0 f1 f2 f3 f4 f5 f6 f7 f8 f9 o0 o1
  have HLi:=KO hLi
  clear hLi
  have HB:=KO hb
  have HBK:=KO hbk
  have HRS:=KO hrs
  clear hb hbk hrs
  match i,ho with
  |0,ho=>
   obtain rfl:=KQ ho
   clear hdep
   refine KT rfl (fun K1 hK1=>?_)
   have hK:=KO hK1
   clear hK1
   go_wp2_with fail
   refine hK.out _ _ ?_;exact jh
  |1,ho=>
   obtain rfl:=KQ ho
   have hl0:=hdep ⟨0,.data⟩ (by simp) rfl
   have z0:=F0.out hl0
   obtain rfl:=z0
   have hs0:L 7=false:=by
    cases h:L 7 with
    |false=>rfl
    |true=>exact absurd ((F7.out h).2.2) (by rw[HLi.out];exact KP)
   clear hdep
   obtain rfl:=O0.out hs0
   have q0:W.cell? ⟨w.heap.size,1,none⟩=some (.slice x.mA x.mx.length x.mc):=HBK.out.cell 1
   refine KT rfl (fun K1 hK1=>?_)
   have hK:=KO hK1
   clear hK1
   go_wp2_with fail
   refine hK.out _ _ ?_;exact jh
  |2,ho=>
   obtain rfl:=KQ ho
   have hl1:=hdep ⟨1,.data⟩ (by simp) rfl
   have z1:=F1.out hl1
   obtain rfl:=z1
   have hs0:L 7=false:=by
    cases h:L 7 with
    |false=>rfl
    |true=>exact absurd ((F7.out h).2.1) (by rw[HLi.out];exact KP)
   clear hdep
   refine KT rfl (fun K1 hK1=>?_)
   have hK:=KO hK1
   clear hK1
   go_wp2_with (go_at_call 127;refine(mX x.mA x.mx x.mc W (HS.out.maxes.below HB.out) (KY HO.out.ml (by decide))).mono ?_;rintro e1 W1 ⟨A',c',rfl,ho',hb1⟩)
   have hsl:=aT (eY (X:=(fun k=>k< w.heap.size+2)) ho' (fun k hk hx=>by have:=HBK.out.lt;have:=HRS.out.lt;omega)) (fun W2 h2=>aA h2)
   refine hK.out _ _ ?_;exact jh
  |3,ho=>
   obtain rfl:=KQ ho
   clear hdep
   refine KT rfl (fun K1 hK1=>?_)
   have hK:=KO hK1
   clear hK1
   go_wp2_with fail
   refine hK.out _ _ ?_;exact jh
  |4,ho=>
   obtain rfl:=KQ ho
   have hl3:=hdep ⟨3,.data⟩ (by simp) rfl
   have z3:=F3.out hl3
   obtain rfl:=z3
   have hs1:L 9=false:=by
    cases h:L 9 with
    |false=>rfl
    |true=>exact absurd ((F9.out h).2.2) (by rw[HLi.out];exact KP)
   clear hdep
   obtain rfl:=O1.out hs1
   have q0:W.cell? ⟨w.heap.size,2,none⟩=some (.slice x.cA x.ct.length x.cc):=HBK.out.cell 2
   refine KT rfl (fun K1 hK1=>?_)
   have hK:=KO hK1
   clear hK1
   go_wp2_with fail
   refine hK.out _ _ ?_;exact jh
  |5,ho=>
   obtain rfl:=KQ ho
   have hl4:=hdep ⟨4,.data⟩ (by simp) rfl
   have z4:=F4.out hl4
   obtain rfl:=z4
   have hs1:L 9=false:=by
    cases h:L 9 with
    |false=>rfl
    |true=>exact absurd ((F9.out h).2.1) (by rw[HLi.out];exact KP)
   clear hdep
   refine KT rfl (fun K1 hK1=>?_)
   have hK:=KO hK1
   clear hK1
   go_wp2_with (go_at_call 128;refine(sU x.cA x.ct x.cc W (HS.out.cnts.below HB.out) (KY HO.out.cl (by decide))).mono ?_;rintro e1 W1 ⟨A',c',rfl,ho',hb1⟩)
   have hsl:=aT (eY (X:=(fun k=>k< w.heap.size+2)) ho' (fun k hk hx=>by have:=HBK.out.lt;have:=HRS.out.lt;omega)) (fun W2 h2=>aA h2)
   refine hK.out _ _ ?_;exact jh
  |6,ho=>
   obtain rfl:=KQ ho
   clear hdep
   refine KT rfl (fun K1 hK1=>?_)
   have hK:=KO hK1
   clear hK1
   go_wp2_with fail
   refine hK.out _ _ ?_;exact jh
  |7,ho=>
   obtain rfl:=KQ ho
   have hl6:=hdep ⟨6,.data⟩ (by simp) rfl
   have z6:=F6.out hl6
   obtain rfl:=z6
   have hl2:=hdep ⟨2,.data⟩ (by simp) rfl
   have z2:=F2.out hl2
   have zz2:=KO z2.2
   obtain rfl:=z2.1
   clear z2
   have hlld:=hdep ⟨1,.phase⟩ (by simp) rfl
   clear hdep
   have q0:W.cell? ⟨w.heap.size,1,none⟩=some x0:=HBK.out.cell 1
   have r0:=HBK.out.frozen 1
   have lg:=HBK.out.lt
   refine KT rfl (fun K1 hK1=>?_)
   have hK:=KO hK1
   clear hK1
   go_wp2_with fail
   refine hK.out _ _ ?_;exact jh
  |8,ho=>
   obtain rfl:=KQ ho
   clear hdep
   refine KT rfl (fun K1 hK1=>?_)
   have hK:=KO hK1
   clear hK1
   go_wp2_with fail
   refine hK.out _ _ ?_;exact jh
  |9,ho=>
   obtain rfl:=KQ ho
   have hl8:=hdep ⟨8,.data⟩ (by simp) rfl
   have z8:=F8.out hl8
   obtain rfl:=z8
   have hl5:=hdep ⟨5,.data⟩ (by simp) rfl
   have z5:=F5.out hl5
   have zz5:=KO z5.2
   obtain rfl:=z5.1
   clear z5
   have hlld:=hdep ⟨4,.phase⟩ (by simp) rfl
   clear hdep
   have q0:W.cell? ⟨w.heap.size,2,none⟩=some x1:=HBK.out.cell 2
   have r0:=HBK.out.frozen 2
   have lg:=HBK.out.lt
   refine KT rfl (fun K1 hK1=>?_)
   have hK:=KO hK1
   clear hK1
   go_wp2_with fail
   refine hK.out _ _ ?_;exact jh
def dn (row:Array Value) (o:Nat):List Value->Array Value
 |[]=>row
 |v::r=>dn (row.setIfInBounds o v) (o+1) r
theorem Blk.setCells {g:Nat} {t:TypeId}:∀(vs:List Value) (o:Nat) (w:World) (row:Array Value),Blk w g t row->Blk (w.setCells g o vs) g t (dn row o vs)
 |[],_,_,_,h=>h
 |v::r,o,w,row,h=>by
  rw[World.setCells]
  exact Blk.setCells r (o+1) _ _ (h.set_ o v)
theorem Blk.setCells_far {g b:Nat} {t:TypeId} (hg:g≠b):∀(vs:List Value) (o:Nat) (w:World) (row:Array Value),Blk w g t row->Blk (w.setCells b o vs) g t row
 |[],_,_,_,h=>h
 |v::r,o,w,row,h=>by
  rw[World.setCells]
  exact Blk.setCells_far hg r (o+1) _ _ (h.far (p:=⟨b,o,none⟩) hg v)
theorem aL {S:Nat->Prop} {g:Nat} (hg:S g):∀(vs:List Value) (o:Nat) (w:World),Mod S w (w.setCells g o vs)
 |[],_,w=>Mod.refl S w
 |v::r,o,w=>by
  rw[World.setCells]
  exact(dw hg).trans (aL hg r (o+1) _)
theorem aS {B g:Nat} {a:World} (hg:B<=g):∀(vs:List Value) (o:Nat) (w:World),Below B a w->Below B a (w.setCells g o vs)
 |[],_,_,h=>h
 |v::r,o,w,h=>by
  rw[World.setCells]
  exact aS hg r (o+1) _ (h.setCell (p:=⟨g,o,none⟩) hg v)
theorem aY {w:World} {g:Nat} {t:TypeId} {row:Array Value} (h:Blk w g t row) (o n:Nat) (hn:o+n<=row.size):w.there g o n:=by
 intro j hj
 refine⟨?_,h.frozen _⟩
 rw[h.cell,Array.getElem?_eq_getElem (by omega)]
 rfl
theorem fo:(prog.info? 29).map (·.size)=some 6:=by kernel_rfl
def CO (c:Cfg) (s:Ss) (w:World) (r:Ending) (w':World):Prop:=∃s2:Ss,r= .returned (.agg (cB c s2))/\SsLike s s2/\Held (fun k=>k< w.heap.size) (fun W=>SsAt W s2) w'/\Below w.heap.size w w'
theorem ru (c:Cfg) (s:Ss) (w:World) (hs:SsAt w s) (ho:SsOk s):Calls prog 95 #[.agg (cB c s)] w (CO c s w):=by
 obtain⟨W0,hW0⟩:∃W0,(w.alloc (.cells (cB c s) 31)).alloc (.cells #[.int .u8 0,.int .i64 0,.int .i64 0,.int .i64 0,.int .i64 0,.int .i64 0,.int .i64 0,.int .i64 0,.int .i64 0,.int .i64 0,.slice none 0 0,.slice none 0 0,.slice none 0 0,.slice none 0 0,.int .u64 0] 31)=W0:=⟨_,rfl⟩
 have hb0:Below w.heap.size w W0:=by rw[<-hW0];exact((KR _ _).alloc (KS _) _).alloc (by simp) _
 have b0:Blk W0 w.heap.size 31 #[.int .u8 c.tag,.int .i64 c.most,.int .i64 c.seg,.int .i64 c.least,.int .i64 c.den,.int .i64 c.leafLow,.int .i64 c.rootLow,.int .i64 c.rootHigh,.int .i64 c.leafHigh,.int .i64 s.seg,.slice s.wA s.ws.length s.wc,.slice s.kA s.ks.length s.kc,.slice s.vA s.vs.length s.vc,.slice s.cA s.cs.length s.cc,.int .u64 s.laid]:=by rw[<-hW0];exact(Blk.new _ _ _).alloc _
 have br0:Blk W0 (w.heap.size+1) 31 #[.int .u8 0,.int .i64 0,.int .i64 0,.int .i64 0,.int .i64 0,.int .i64 0,.int .i64 0,.int .i64 0,.int .i64 0,.int .i64 0,.slice none 0 0,.slice none 0 0,.slice none 0 0,.slice none 0 0,.int .u64 0]:=by
  rw[<-hW0]
  have:=Blk.new (w.alloc (.cells (cB c s) 31)) 31 #[.int .u8 0,.int .i64 0,.int .i64 0,.int .i64 0,.int .i64 0,.int .i64 0,.int .i64 0,.int .i64 0,.int .i64 0,.int .i64 0,.slice none 0 0,.slice none 0 0,.slice none 0 0,.slice none 0 0,.int .u64 0]
  rwa [KX]at this
 have HTW:=KO (um s W0 (hs.below hb0) ho)
 have HW0:=KO hW0
 have HB0:=KO hb0
 have HC0:=KO b0
 have HR0:=KO br0
 clear hW0 hb0 b0 br0 hs ho
 go_enter func95,ntmps95
 go_upto_region 1 with fail
 rw[HW0.out]
 repeat (first|refine Mi rfl 29 (.tmp 3) rfl w.heap.size 9 rfl [.int .i64 s.seg,.slice s.wA s.ws.length s.wc,.slice s.kA s.ks.length s.kc,.slice s.vA s.vs.length s.vc,.slice s.cA s.cs.length s.cc,.int .u64 s.laid] _ (ae HC0.out 9 6 rfl) underlying29 rfl fo ?_|go_values|go_skip|go_guarded|go_step|go_upon)
 refine HTW.out.mono ?_
 rintro e w1 ⟨s2,rfl,hl2,hh2,hb1⟩
 have HL2:=KO hl2
 have HC1:=KO (HC0.out.below hb1 HC0.out.lt)
 have HR1:=KO (HR0.out.below hb1 HR0.out.lt)
 have HB1:=KO (aa HB0.out hb1)
 have hsz:w.heap.size+2<=W0.heap.size:=by have:=HR0.out.lt;omega
 have HH2:=KO (Held.join (Y:=(fun k=>k< w.heap.size+2)) hh2 (Mod.refl _ _) (fun k _ hx=>Nat.lt_of_lt_of_le hx hsz))
 clear hl2 hh2 hb1 hsz HTW
 try dsimp only[]
 iterate 9 (first|refine wpList_store_mid rfl 29 (.tmp 6) (.tmp 5) rfl w.heap.size 9 #[.int .i64 s2.seg,.slice s2.wA s2.ws.length s2.wc,.slice s2.kA s2.ks.length s2.kc,.slice s2.vA s2.vs.length s2.vc,.slice s2.cA s2.cs.length s2.cc,.int .u64 s2.laid] rfl rfl (aY HC1.out 9 6 (by simp)) fo (Ld (by simp[Value.oneCell'])) ?_|go_values|go_skip|go_guarded|go_step|go_upon)
 obtain⟨W2,hW2⟩:∃W,w1.setCells w.heap.size 9 (#[.int .i64 s2.seg,.slice s2.wA s2.ws.length s2.wc,.slice s2.kA s2.ks.length s2.kc,.slice s2.vA s2.vs.length s2.vc,.slice s2.cA s2.cs.length s2.cc,.int .u64 s2.laid]:Array Value).toList=W:=⟨_,rfl⟩
 have HC2:=KO (show Blk W2 w.heap.size 31 #[.int .u8 c.tag,.int .i64 c.most,.int .i64 c.seg,.int .i64 c.least,.int .i64 c.den,.int .i64 c.leafLow,.int .i64 c.rootLow,.int .i64 c.rootHigh,.int .i64 c.leafHigh,.int .i64 s2.seg,.slice s2.wA s2.ws.length s2.wc,.slice s2.kA s2.ks.length s2.kc,.slice s2.vA s2.vs.length s2.vc,.slice s2.cA s2.cs.length s2.cc,.int .u64 s2.laid]from by rw[<-hW2];simpa[dn]using Blk.setCells (#[.int .i64 s2.seg,.slice s2.wA s2.ws.length s2.wc,.slice s2.kA s2.ks.length s2.kc,.slice s2.vA s2.vs.length s2.vc,.slice s2.cA s2.cs.length s2.cc,.int .u64 s2.laid]:Array Value).toList 9 _ _ HC1.out)
 have HR2:=KO (show Blk W2 (w.heap.size+1) 31 #[.int .u8 0,.int .i64 0,.int .i64 0,.int .i64 0,.int .i64 0,.int .i64 0,.int .i64 0,.int .i64 0,.int .i64 0,.int .i64 0,.slice none 0 0,.slice none 0 0,.slice none 0 0,.slice none 0 0,.int .u64 0]from by rw[<-hW2];exact Blk.setCells_far (by simp) _ 9 _ _ HR1.out)
 have HB2:=KO (show Below w.heap.size w W2 from by rw[<-hW2];exact aS (KS _) _ 9 _ HB1.out)
 have HH3:=KO (show Held (fun k=>k< w.heap.size+2) (fun W=>SsAt W s2) W2 from by rw[<-hW2];exact HH2.out.step (aL (by show w.heap.size< w.heap.size+2;omega) _ 9 _))
 rw[hW2]
 clear hW2 HC1 HR1 HB1 HH2 HC0 HR0 HB0
 go_step
 refine Mi rfl 31 (.tmp 1) rfl w.heap.size 0 rfl [.int .u8 c.tag,.int .i64 c.most,.int .i64 c.seg,.int .i64 c.least,.int .i64 c.den,.int .i64 c.leafLow,.int .i64 c.rootLow,.int .i64 c.rootHigh,.int .i64 c.leafHigh,.int .i64 s2.seg,.slice s2.wA s2.ws.length s2.wc,.slice s2.kA s2.ks.length s2.kc,.slice s2.vA s2.vs.length s2.vc,.slice s2.cA s2.cs.length s2.cc,.int .u64 s2.laid] _ (ae HC2.out 0 15 rfl) underlying31 rfl bK ?_
 refine wpList_store_mid rfl 31 (.tmp 2) (.tmp 7) rfl (w.heap.size+1) 0 #[.int .u8 c.tag,.int .i64 c.most,.int .i64 c.seg,.int .i64 c.least,.int .i64 c.den,.int .i64 c.leafLow,.int .i64 c.rootLow,.int .i64 c.rootHigh,.int .i64 c.leafHigh,.int .i64 s2.seg,.slice s2.wA s2.ws.length s2.wc,.slice s2.kA s2.ks.length s2.kc,.slice s2.vA s2.vs.length s2.vc,.slice s2.cA s2.cs.length s2.cc,.int .u64 s2.laid] rfl rfl (aY HR2.out 0 15 (by simp)) bK (Ld (by simp[Value.oneCell'])) ?_
 obtain⟨W3,hW3⟩:∃W,W2.setCells (w.heap.size+1) 0 (#[.int .u8 c.tag,.int .i64 c.most,.int .i64 c.seg,.int .i64 c.least,.int .i64 c.den,.int .i64 c.leafLow,.int .i64 c.rootLow,.int .i64 c.rootHigh,.int .i64 c.leafHigh,.int .i64 s2.seg,.slice s2.wA s2.ws.length s2.wc,.slice s2.kA s2.ks.length s2.kc,.slice s2.vA s2.vs.length s2.vc,.slice s2.cA s2.cs.length s2.cc,.int .u64 s2.laid]:Array Value).toList=W:=⟨_,rfl⟩
 have HR3:=KO (show Blk W3 (w.heap.size+1) 31 #[.int .u8 c.tag,.int .i64 c.most,.int .i64 c.seg,.int .i64 c.least,.int .i64 c.den,.int .i64 c.leafLow,.int .i64 c.rootLow,.int .i64 c.rootHigh,.int .i64 c.leafHigh,.int .i64 s2.seg,.slice s2.wA s2.ws.length s2.wc,.slice s2.kA s2.ks.length s2.kc,.slice s2.vA s2.vs.length s2.vc,.slice s2.cA s2.cs.length s2.cc,.int .u64 s2.laid]from by rw[<-hW3];simpa[dn]using Blk.setCells (#[.int .u8 c.tag,.int .i64 c.most,.int .i64 c.seg,.int .i64 c.least,.int .i64 c.den,.int .i64 c.leafLow,.int .i64 c.rootLow,.int .i64 c.rootHigh,.int .i64 c.leafHigh,.int .i64 s2.seg,.slice s2.wA s2.ws.length s2.wc,.slice s2.kA s2.ks.length s2.kc,.slice s2.vA s2.vs.length s2.vc,.slice s2.cA s2.cs.length s2.cc,.int .u64 s2.laid]:Array Value).toList 0 _ _ HR2.out)
 have HB3:=KO (show Below w.heap.size w W3 from by rw[<-hW3];exact aS (Mm _) _ 0 _ HB2.out)
 have HH4:=KO (show Held (fun k=>k< w.heap.size+2) (fun W=>SsAt W s2) W3 from by rw[<-hW3];exact HH3.out.step (aL (by show w.heap.size+1< w.heap.size+2;omega) _ 0 _))
 rw[hW3]
 clear hW3 HR2 HB2 HH3 HC2
 have p0:=HR3.out.cell
 go_wp2_with fail
 refine KV (v:= .agg #[.int .u8 c.tag,.int .i64 c.most,.int .i64 c.seg,.int .i64 c.least,.int .i64 c.den,.int .i64 c.leafLow,.int .i64 c.rootLow,.int .i64 c.rootHigh,.int .i64 c.leafHigh,.int .i64 s2.seg,.slice s2.wA s2.ws.length s2.wc,.slice s2.kA s2.ks.length s2.kc,.slice s2.vA s2.vs.length s2.vc,.slice s2.cA s2.cs.length s2.cc,.int .u64 s2.laid]) (by simp[results,results95,go_sem,(p0 0),(p0 1),(p0 2),(p0 3),(p0 4),(p0 5),(p0 6),(p0 7),(p0 8),(p0 9),(p0 10),(p0 11),(p0 12),(p0 13),(p0 14)]) rfl ?_
 exact⟨s2,rfl,HL2.out,Held.join HH4.out (Mod.refl _ _) (fun k _ hx=>Nat.lt_of_lt_of_le hx (Nat.le_add_right _ _)),HB3.out⟩
end Go.Proofs.YtpbmbjjfdpkhbaaGreat
