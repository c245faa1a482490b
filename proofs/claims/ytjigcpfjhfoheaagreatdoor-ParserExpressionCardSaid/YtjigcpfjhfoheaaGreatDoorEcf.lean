/- Expressions: the parser reads them as exprP does; Walks: names, tuples, bounds, WHERE; Walks: tuples, numbers other than 0, sources, assignments; Walks: sources, elements of ORDER BY; A definition under way: four rows of the call'. -/
import Derived.Test.YtjigcpfjhfoheaaGreatDoorEce
import Derived.Test.YtjigcpfjhfoheaaGreatDoorEbi
import Derived.Test.YtjigcpfjhfoheaaGreatDoorEbb
import Derived.BigQuiet
import Derived.Maps.OwnSet
import Derived.Great.BuildSlice
namespace Go.Proofs.YtjigcpfjhfoheaaGreatDoor
open Go.RowKit
set_option maxHeartbeats 2000000
set_option maxRecDepth 100000
set_option linter.unusedVariables false
set_option linter.unusedSimpArgs false
section
open Lx (Tk)
section
variable {P c:Nat} {A:Option Addr} {L:List Tk} {w0:World}
theorem expr_all (hE:Er w0) (hL:TkL L):∀n,Rdr 68 P A c L w0 n 39 (exprP n)
 |0=>fun _ _ _ h=>absurd h (Nat.not_lt_zero _)
 |n+1=>by
  have hfe:=fwd_prim (fwd_expr n)
  have h1:=prim_rd hE hL (expr_all hE hL n)
  have h2:Rdr 68 P A c L w0 (n+1) 297 (unaP (primP (exprP n))):=fun W st hp h=>unary_rd h1 h hp hL
  have h3:Rdr 68 P A c L w0 (n+1) 278 (proP (primP (exprP n))):=fun W st hp h=>product_rd hfe h2 h hp hL
  have h4:Rdr 68 P A c L w0 (n+1) 258 (sumP (primP (exprP n))):=fun W st hp h=>sum_rd hfe h3 h hp hL
  have h5:=test_rd hfe hL h4
  have h6:=not_rd h5 hL (n+1) (Nat.le_refl _)
  have h7:Rdr 68 P A c L w0 (n+1) 78 (andP (primP (exprP n))):=fun W st hp h=>and_rd hfe h6 h hp hL
  exact fun W st hp h=>expr_rd hfe h7 h hp hL
end
end
section
open Lx (Tk)
theorem listGo_len {α:Type} {el:M α} (h:Fwd el):∀(n:Nat) (o:List α) (s:Ps),(listGo el n o s).1.length≤o.length+s.r.length
 |0,o,s=>by rw[listGo];show o.length≤_;omega
 |n+1,o,s=>by
  rw[listGo]
  split
  ·next hs=>
   have h1:=listGo_len h n (o++ [(el s.next).1]) (el s.next).2
   have h2:=h s.next
   have h3:=isS_len hs
   rw[List.length_append,List.length_singleton]at h1
   omega
  ·show o.length≤_
   omega
theorem list_len {α:Type} {el:M α} (h:Fwd el) (s:Ps):(listP el s).1.length≤s.r.length+1:=by
 have h1:=listGo_len h (s.r.length+1) [(el s).1] (el s).2
 have h2:=h s
 unfold listP
 simp only[List.length_singleton]at h1
 omega
theorem lst_kids {w:World} {B:Option Addr} {l:List Ex} (h:Lst Phiex 8 w B l):KidsAt w B l:=by
 unfold KidsAt
 rw[exsAt_iff]
 intro j e he
 obtain⟨cs,_,hc,A1,k1,c1,hcs,hv⟩:=h j e he
 refine⟨cs,by simpa using hc,?_⟩
 cases e with
 |mk d ks=>
  rw[ExC]
  have h1:ks.length=k1:=hv.len
  subst h1
  exact⟨hv.fit,hv.le,A1,c1,hcs,hv.kids⟩
section
variable {P c:Nat} {A:Option Addr} {L:List Tk} {w0 w:World} {s:Ps}
theorem where_rd {n:Nat} {ex:M Ex} (hr:Rdr 68 P A c L w0 n 39 ex) (hn:s.r.length<n) (hp:PsAt 68 P A c L w0 w s) (hL:TkL L):
  Calls Tryz.prog 60 #[.pointer (some ⟨P,0,none⟩)] w (Ran 68 P A c L w0 w (whrP ex s).2 fun v w'=>ExG w.heap.size w' (whrP ex s).1 v):=by
 have hx0:=(Ext.refl w).alloc (.cells #[.int .i64 0,.string ⟨#[]⟩,.string ⟨#[]⟩,.int .i64 0,.int .i64 0,.int .i64 0,.string ⟨#[]⟩,.slice none 0 0] 37)
 have HS0:=hid (hp.ext hx0)
 have HG0:Hid (P<w.heap.size):=hp.lt
 have HR0:=hid (Blk.of_new w 37 eZ)
 have HC0:=hid (Chg.of (P:=P) hx0)
 have HM:Hid (whrP ex s=if isS kWHERE s=true then ex s.next else (exZ,s)):=rfl
 have HN1:Hid (w.heap.size≤(w.alloc (.cells #[.int .i64 0,.string ⟨#[]⟩,.string ⟨#[]⟩,.int .i64 0,.int .i64 0,.int .i64 0,.string ⟨#[]⟩,.slice none 0 0] 37)).heap.size):=hx0.size
 obtain⟨R,hR⟩:∃R,whrP ex s=R:=⟨_,rfl⟩
 rw[hR]at HM ⊢
 clear hp hx0 hR
 go_enter Tryz.func60,Tryz.ntmps60
 go_upto_region 1 with fail
 generalize w.alloc (.cells #[.int .i64 0,.string ⟨#[]⟩,.string ⟨#[]⟩,.int .i64 0,.int .i64 0,.int .i64 0,.string ⟨#[]⟩,.slice none 0 0] 37)=wz at*
 obtain⟨g0,hg0⟩:∃g,w.heap.size=g:=⟨_,rfl⟩
 have HN0:=hid hg0
 rw[hg0]at HG0 HR0 HN1 ⊢
 clear hg0
 have HG:=HG0
 go_wp2_with fail
 refine(accept_any HS0.out hL kWHERE).mono ?_
 rintro _ w1 ⟨v,rfl,h1,h2,rfl⟩
 have HS1:=hid h1
 have HR1:=hid (h2.blk HR0.out (by have:=HG.out;omega))
 have HC1:=hid (HC0.out.trans h2)
 clear h1 h2
 clear HR0 HC0 HS0
 cases hb1:isS kWHERE s
 ·have e:(accP kWHERE s).2=s:=by simp[accP,hb1]
  rw[e]at HS1
  clear e
  have HXX:Hid (ExG (g0+1) w1 exZ (.agg #[.int .i64 0,.string ⟨#[]⟩,.string ⟨#[]⟩,.int .i64 0,.int .i64 0,.int .i64 0,.string ⟨#[]⟩,.slice none 0 0])):=exG_zero _ _
  have HRv:Hid (R.1=exZ):=by
   rw[HM.out,hb1]
   rfl
  have HRs:Hid (R.2=s):=by
   rw[HM.out,hb1]
   rfl
  obtain⟨z0,z1,z2,z3,z4,z5,z6,z7,-⟩:=cls HR1.out
  obtain⟨y0,y1,y2,y3,y4,y5,y6,y7,-⟩:=frz HR1.out
  have hz:=sts_blk HR1.out eZ rfl
  have HGr:=hid (sts_grown g0 eZ w1 0)
  simp only[sts]at hz
  have HZ:=hid hz
  clear hz
  go_wp2_with fail
  obtain⟨q0,q1,q2,q3,q4,q5,q6,q7,-⟩:=cls HZ.out
  exact bodyPost_ret (v:= .agg #[.int .i64 0,.string ⟨#[]⟩,.string ⟨#[]⟩,.int .i64 0,.int .i64 0,.int .i64 0,.string ⟨#[]⟩,.slice none 0 0]) (by simp[results,Tryz.results60,go_sem,q0,q1,q2,q3,q4,q5,q6,q7]) rfl ⟨_,rfl,by rw[HRs.out];exact HS1.out.grown HGr.out (fun q hq=>by have:=HG.out;have:=Option.some.inj hq;omega),HC1.out.own HGr.out (fun q hq=>by have:=Option.some.inj hq;rw[HN0.out];omega),by rw[HRv.out,HN0.out];exact fin_ex HXX.out HGr.out (Nat.lt_succ_self _)⟩
 ·have e:(accP kWHERE s).2=s.next:=by simp[accP,hb1]
  rw[e]at HS1
  clear e
  have hln:=isS_len hb1
  go_wp2_with fail
  refine(hr _ _ HS1.out (by omega)).mono ?_
  rintro _ w2 ⟨v,rfl,h1,h2,A1,k1,c1,rfl,h3⟩
  have HS2:=hid h1
  have HR2:=hid (h2.blk HR1.out (by have:=HG.out;omega))
  have HC2:=hid (HC1.out.trans h2)
  obtain⟨e1,he1⟩:∃e,(ex s.next).1=e:=⟨_,rfl⟩
  have HV1:=hid he1
  rw[he1]at h3 ⊢
  clear he1
  obtain⟨⟨op,tb,nm,ix,vk,vi,vt⟩,ks⟩:=e1
  unfold Nd.val
  simp only[Ex.d]
  have HX1_2:Hid (Stb (g0+1≤·) w2 fun w'=>ExV w' (.mk ⟨op,tb,nm,ix,vk,vi,vt⟩ ks) A1 k1 c1):=h3.weak fun q _ hq=>Nat.le_trans HR1.out.lt hq
  clear h1 h2 h3
  clear HR1 HC1 HS1
  have HXX:Hid (ExG (g0+1) w2 (.mk ⟨op,tb,nm,ix,vk,vi,vt⟩ ks) (.agg #[.int .i64 op,.string tb,.string nm,.int .i64 ix,.int .i64 vk,.int .i64 vi,.string vt,.slice A1 k1 c1])):=⟨A1,k1,c1,rfl,HX1_2.out⟩
  have HRv:Hid (R.1=(.mk ⟨op,tb,nm,ix,vk,vi,vt⟩ ks)):=by
   rw[HM.out,hb1]
   exact HV1.out
  have HRs:Hid (R.2=(ex s.next).2):=by
   rw[HM.out,hb1]
   rfl
  obtain⟨z0,z1,z2,z3,z4,z5,z6,z7,-⟩:=cls HR2.out
  obtain⟨y0,y1,y2,y3,y4,y5,y6,y7,-⟩:=frz HR2.out
  have hz:=sts_blk HR2.out (eC op tb nm ix vk vi vt A1 k1 c1) rfl
  have HGr:=hid (sts_grown g0 (eC op tb nm ix vk vi vt A1 k1 c1) w2 0)
  simp only[sts]at hz
  have HZ:=hid hz
  clear hz
  go_wp2_with fail
  obtain⟨q0,q1,q2,q3,q4,q5,q6,q7,-⟩:=cls HZ.out
  exact bodyPost_ret (v:= .agg #[.int .i64 op,.string tb,.string nm,.int .i64 ix,.int .i64 vk,.int .i64 vi,.string vt,.slice A1 k1 c1]) (by simp[results,Tryz.results60,go_sem,q0,q1,q2,q3,q4,q5,q6,q7]) rfl ⟨_,rfl,by rw[HRs.out];exact HS2.out.grown HGr.out (fun q hq=>by have:=HG.out;have:=Option.some.inj hq;omega),HC2.out.own HGr.out (fun q hq=>by have:=Option.some.inj hq;rw[HN0.out];omega),by rw[HRv.out,HN0.out];exact fin_ex HXX.out HGr.out (Nat.lt_succ_self _)⟩
end
end
section
open Lx (Tk)
section
variable {P c:Nat} {A:Option Addr} {L:List Tk} {w0 w:World} {s:Ps}
theorem dig_zero {L:List Tk} (hL:TkL L) {a:Tk} (ha:a∈L) (hk:a.kind=3):(digV (tkB a)==0)=decide (tkB a=⟨#[48]⟩):=by
 obtain⟨_,_,_,h4⟩:=hL.num a ha hk
 rw[Bool.eq_iff_iff,beq_iff_eq,decide_eq_true_iff,h4]
 unfold tkB
 constructor
 ·intro h;rw[h]
 ·intro h
  simp only[ByteArray.mk.injEq]at h
  have:=congrArg Array.toList h
  simpa using this
theorem positive_tok (hp:PsAt 68 P A c L w0 w s) (hL:TkL L) (hE:Er w0):
  Calls Tryz.prog 109 #[.pointer (some ⟨P,0,none⟩)] w (Ran 68 P A c L w0 w (posP s).2 fun v _=>v= .int .i64 (posP s).1):=by
 have HM:Hid (posP s=numP (if (hasK 3 s&&digV (tkB s.hd)==0)=true then s.fail else s)):=rfl
 obtain⟨R,hR⟩:∃R,posP s=R:=⟨_,rfl⟩
 rw[hR]at HM ⊢
 clear hR
 have HP:=hid hp
 have cH:∀x:Later w,Calls Tryz.prog 43 #[.pointer (some ⟨P,0,none⟩),.int .i64 3] x.now fun e w'=>e= .returned (.bool (hasK 3 s))∧Ext x.now w':=fun x=>has_any (hp.ext x.ext) hL 3
 obtain⟨b,off,hA,hb,c0,c1,c2⟩:=hp.cells
 subst hA
 obtain⟨p0,p1,-⟩:=cls hp.blk
 have hi:=hp.lti
 have hl:=hL.len
 have HH3:Hid (hasK 3 s=true→(digV (tkB s.hd)==0)=decide (tkB s.hd=⟨#[48]⟩)):=fun h=>dig_zero hL hp.mem (by simp[hasK]at h;exact h.2)
 obtain⟨i,hii⟩:∃i,L.length-s.r.length=i:=⟨_,rfl⟩
 rw[hii]at p1 c0 c1 c2 hi
 have i0:(0:Int)≤(i:Int):=by omega
 have i1:(i:Int)<(L.length:Int):=by omega
 clear hp hii
 go_enter Tryz.func109,Tryz.ntmps109
 go_upto_region 1 with fail
 have l0:=Later.keep p0
 have l1:=Later.keep p1
 have l2:=Later.keep c1
 generalize tkB s.hd=X at*
 cases hk:hasK 3 s
 ·rw[hk]at cH HM
  refine wp_region_later (by kernel_rfl) (by kernel_rfl) ?_
  repeat (go_big_quiet_step ((first|(go_at_call 43;exact later_of (cH _)))))
  refine wpQuiet_nil ?_
  intro w' hw'
  have hx:=later_out hw'
  have HN:=hid (number_tok (HP.out.ext hx) hL hE)
  have hR2:R=numP s:=HM.out
  have HR2:=hid hR2
  have HX:=hid hx
  clear hw' hx HM hR2 l0 l1 l2 cH
  go_wp2_with fail
  refine HN.out.mono ?_
  rintro _ w2 ⟨v,rfl,h1,h2,rfl⟩
  go_wp2_with fail
  go_ret
  exact⟨_,rfl,by rw[HR2.out];exact h1,(Chg.of HX.out).trans h2,by rw[HR2.out];rfl⟩
 ·have h3:=HH3.out hk
  rw[hk,h3]at HM
  rw[hk]at cH
  clear h3 HH3
  refine wp_region_later (by kernel_rfl) (by kernel_rfl) ?_
  repeat (go_big_quiet_step ((first|(go_at_call 43;exact later_of (cH _)))))
  refine wpQuiet_nil ?_
  intro w' hw'
  have hx:=later_out hw'
  have hz9:(X.toList== [48])=decide (X=⟨#[48]⟩):=by
   have:=str_dec X ⟨#[48]⟩
   rw[←this]
   congr 1
   rw[ByteArray.toList_eq]
  rw[hz9]
  clear hz9
  have HX:=hid hx
  have HS:=hid (HP.out.ext hx)
  clear hw' hx l0 l1 l2 cH
  cases hz:decide (X=⟨#[48]⟩)
  ·rw[hz]at HM
   have hR2:R=numP s:=HM.out
   have HR2:=hid hR2
   have HN:=hid (number_tok HS.out hL hE)
   clear hR2 HM hz
   go_wp2_with fail
   refine HN.out.mono ?_
   rintro _ w2 ⟨v,rfl,h1,h2,rfl⟩
   go_wp2_with fail
   go_ret
   exact⟨_,rfl,by rw[HR2.out];exact h1,(Chg.of HX.out).trans h2,by rw[HR2.out];rfl⟩
  ·rw[hz]at HM
   have hR2:R=numP s.fail:=HM.out
   have HR2:=hid hR2
   have HS2:=hid HS.out.fail
   have HN:=hid (number_tok HS2.out hL hE)
   have HC:=hid ((Chg.of (P:=P) HX.out).set 2 (.bool true))
   have p2:=HS.out.blk.cell_some (i:=2) rfl
   have f2:=HS.out.blk.frozen 2
   clear hR2 HM hz
   go_wp2_with fail
   refine HN.out.mono ?_
   rintro _ w2 ⟨v,rfl,h1,h2,rfl⟩
   go_wp2_with fail
   go_ret
   exact⟨_,rfl,by rw[HR2.out];exact h1,HC.out.trans h2,by rw[HR2.out];rfl⟩
end
end
section
open Lx (Tk)
section
variable {P c:Nat} {A:Option Addr} {L:List Tk} {w0 w:World} {s:Ps}
theorem source_rd (hp:PsAt 68 P A c L w0 w s) (hL:TkL L):
  Calls Tryz.prog 104 #[.pointer (some ⟨P,0,none⟩)] w (Ran 68 P A c L w0 w (srcP s).2 fun v w'=>v= .agg #[.string (srcP s).1.tb,.string (srcP s).1.al]∧(srcP s).1.tb.size≤20000∧(srcP s).1.al.size≤20000):=by
 have hx0:=(Ext.refl w).alloc (.cells #[.string ⟨#[]⟩,.string ⟨#[]⟩] 86)
 have HS0:=hid (hp.ext hx0)
 have HG0:Hid (P<w.heap.size):=hp.lt
 have HR0:=hid (Blk.of_new w 86 [.string ⟨#[]⟩,.string ⟨#[]⟩])
 have HC0:=hid (Chg.of (P:=P) hx0)
 have HM:Hid (srcP s=if isS kAS (takP 1 s).2=true then (⟨(takP 1 s).1,(takP 1 (takP 1 s).2.next).1⟩,(takP 1 (takP 1 s).2.next).2)else (⟨(takP 1 s).1,⟨#[]⟩⟩,(takP 1 s).2)):=rfl
 have HN1:Hid (w.heap.size≤(w.alloc (.cells #[.string ⟨#[]⟩,.string ⟨#[]⟩] 86)).heap.size):=hx0.size
 obtain⟨R,hR⟩:∃R,srcP s=R:=⟨_,rfl⟩
 rw[hR]at HM ⊢
 clear hp hx0 hR
 go_enter Tryz.func104,Tryz.ntmps104
 go_upto_region 1 with fail
 generalize w.alloc (.cells #[.string ⟨#[]⟩,.string ⟨#[]⟩] 86)=wz at*
 obtain⟨g0,hg0⟩:∃g,w.heap.size=g:=⟨_,rfl⟩
 have HN0:=hid hg0
 rw[hg0]at HG0 HR0 HN1 ⊢
 clear hg0
 have HG:=HG0
 have HT1:=hid (HS0.out.tak_size hL 1)
 go_wp2_with fail
 refine(name_tok HS0.out hL).mono ?_
 rintro _ w1 ⟨v,rfl,h1,h2,rfl⟩
 have HS1:=hid h1
 have HR1:=hid (h2.blk HR0.out (by have:=HG.out;omega))
 have HC1:=hid (HC0.out.trans h2)
 clear h1 h2
 clear HR0 HC0 HS0
 obtain⟨X,hX⟩:∃x,(takP 1 s).1=x:=⟨_,rfl⟩
 obtain⟨s1,hs1⟩:∃x,(takP 1 s).2=x:=⟨_,rfl⟩
 rw[hX,hs1]at HM
 rw[hX]at HT1 ⊢
 rw[hs1]at HS1
 clear hX hs1
 go_upto_region 2 with fail
 have hx:=(Ext.refl w1).alloc (.cells #[.string X,.string ⟨#[]⟩] 86)
 have HR2:=hid (HR1.out.ext hx)
 have HC2:=hid (HC1.out.ext hx)
 have HS2:=hid (HS1.out.ext hx)
 have HBv_2:=hid (Blk.of_new w1 86 [.string X,.string ⟨#[]⟩])
 have HGv:Hid (g0<w1.heap.size):=HR1.out.lt
 clear hx
 clear HR1 HC1 HS1
 generalize w1.alloc (.cells #[.string X,.string ⟨#[]⟩] 86)=w2 at*
 generalize w1.heap.size=gv at*
 go_wp2_with fail
 refine(accept_any HS2.out hL kAS).mono ?_
 rintro _ w3 ⟨v,rfl,h1,h2,rfl⟩
 have HS3:=hid h1
 have HR3:=hid (h2.blk HR2.out (by have:=HG.out;omega))
 have HC3:=hid (HC2.out.trans h2)
 have HBv_3:=hid (h2.blk HBv_2.out (by have:=HG.out;have:=HGv.out;omega))
 clear h1 h2
 clear HR2 HC2 HS2 HBv_2
 cases hb3:isS kAS s1
 ·have e:(accP kAS s1).2=s1:=by simp[accP,hb3]
  rw[e]at HS3
  clear e
  obtain⟨b0,b1,-⟩:=cls HBv_3.out
  have HRv:Hid (R.1=⟨X,⟨#[]⟩⟩):=by
   rw[HM.out,hb3]
   rfl
  have HRs:Hid (R.2=s1):=by
   rw[HM.out,hb3]
   rfl
  obtain⟨z0,z1,-⟩:=cls HR3.out
  have y0:=HR3.out.frozen 0
  have y1:=HR3.out.frozen 1
  have hz:=sts_blk HR3.out [.string X,.string ⟨#[]⟩] rfl
  have HGr:=hid (sts_grown g0 [.string X,.string ⟨#[]⟩] w3 0)
  simp only[sts]at hz
  have HZ:=hid hz
  clear hz
  go_wp2_with fail
  obtain⟨q0,q1,-⟩:=cls HZ.out
  exact bodyPost_ret (v:= .agg #[.string X,.string ⟨#[]⟩]) (by simp[results,Tryz.results104,go_sem,q0,q1]) rfl ⟨_,rfl,by rw[HRs.out];exact HS3.out.grown HGr.out (fun q hq=>by have:=HG.out;have:=Option.some.inj hq;omega),HC3.out.own HGr.out (fun q hq=>by have:=Option.some.inj hq;rw[HN0.out];omega),by rw[HRv.out];exact⟨rfl,HT1.out,Nat.zero_le _⟩⟩
 ·have e:(accP kAS s1).2=s1.next:=by simp[accP,hb3]
  rw[e]at HS3
  clear e
  have HT2:=hid (HS3.out.tak_size hL 1)
  go_wp2_with fail
  refine(name_tok HS3.out hL).mono ?_
  rintro _ w4 ⟨v,rfl,h1,h2,rfl⟩
  have HS4:=hid h1
  have HR4:=hid (h2.blk HR3.out (by have:=HG.out;omega))
  have HC4:=hid (HC3.out.trans h2)
  have HBv_4:=hid (h2.blk HBv_3.out (by have:=HG.out;have:=HGv.out;omega))
  clear h1 h2
  clear HR3 HC3 HS3 HBv_3
  obtain⟨Y,hY⟩:∃x,(takP 1 s1.next).1=x:=⟨_,rfl⟩
  rw[hY]at HM HT2 ⊢
  clear hY
  have z9:=HBv_4.out.cell_some (i:=1) rfl
  have y9:=HBv_4.out.frozen 1
  have hgr:=sts_grown gv [.string Y] w4 1
  simp only[sts]at hgr
  have HS5:=hid (HS4.out.grown hgr (fun q hq=>by have:=Option.some.inj hq;have:=HG.out;have:=HGv.out;omega))
  have HR5:=hid (HR4.out.grown hgr (fun e=>by have:=Option.some.inj e;have:=HGv.out;omega))
  have HC5:=hid (HC4.out.own hgr (fun q hq=>by have:=Option.some.inj hq;have:=HGv.out;rw[HN0.out];omega))
  have HBv_5:=hid (HBv_4.out.set 1 (.string Y))
  clear hgr
  clear HR4 HC4 HS4 HBv_4
  go_upto_region 4 with fail
  generalize w4.setCell ⟨gv,1,none⟩ (.string Y)=w5 at*
  clear z9 y9
  obtain⟨b0,b1,-⟩:=cls HBv_5.out
  have HRv:Hid (R.1=⟨X,Y⟩):=by
   rw[HM.out,hb3]
   rfl
  have HRs:Hid (R.2=(takP 1 s1.next).2):=by
   rw[HM.out,hb3]
   rfl
  obtain⟨z0,z1,-⟩:=cls HR5.out
  have y0:=HR5.out.frozen 0
  have y1:=HR5.out.frozen 1
  have hz:=sts_blk HR5.out [.string X,.string Y] rfl
  have HGr:=hid (sts_grown g0 [.string X,.string Y] w5 0)
  simp only[sts]at hz
  have HZ:=hid hz
  clear hz
  go_wp2_with fail
  obtain⟨q0,q1,-⟩:=cls HZ.out
  exact bodyPost_ret (v:= .agg #[.string X,.string Y]) (by simp[results,Tryz.results104,go_sem,q0,q1]) rfl ⟨_,rfl,by rw[HRs.out];exact HS5.out.grown HGr.out (fun q hq=>by have:=HG.out;have:=Option.some.inj hq;omega),HC5.out.own HGr.out (fun q hq=>by have:=Option.some.inj hq;rw[HN0.out];omega),by rw[HRv.out];exact⟨rfl,HT1.out,HT2.out⟩⟩
theorem order_rd (hE:Er w0) (hp:PsAt 68 P A c L w0 w s) (hL:TkL L):
  Calls Tryz.prog 108 #[.pointer (some ⟨P,0,none⟩)] w (Ran 68 P A c L w0 w (ordP posP s).2 fun v w'=>Elord w.heap.size w' (ordP posP s).1 v):=by
 have hx0:=(Ext.refl w).alloc (.cells #[.int .i64 0,.bool false] 88)
 have HS0:=hid (hp.ext hx0)
 have HG0:Hid (P<w.heap.size):=hp.lt
 have HR0:=hid (Blk.of_new w 88 [.int .i64 0,.bool false])
 have HC0:=hid (Chg.of (P:=P) hx0)
 have HM:Hid (ordP posP s=if isS kASC (posP s).2=true then (⟨(posP s).1,false⟩,(posP s).2.next)else if isS kDESC (posP s).2=true then (⟨(posP s).1,true⟩,(posP s).2.next)else (⟨(posP s).1,false⟩,(posP s).2)):=rfl
 have HN1:Hid (w.heap.size≤(w.alloc (.cells #[.int .i64 0,.bool false] 88)).heap.size):=hx0.size
 obtain⟨R,hR⟩:∃R,ordP posP s=R:=⟨_,rfl⟩
 rw[hR]at HM ⊢
 clear hp hx0 hR
 go_enter Tryz.func108,Tryz.ntmps108
 go_upto_region 1 with fail
 generalize w.alloc (.cells #[.int .i64 0,.bool false] 88)=wz at*
 obtain⟨g0,hg0⟩:∃g,w.heap.size=g:=⟨_,rfl⟩
 have HN0:=hid hg0
 rw[hg0]at HG0 HR0 HN1 ⊢
 clear hg0
 have HG:=HG0
 have HT1:Hid (I64 (posP s).1):=by
  have h9:0≤(posP s).1∧(posP s).1≤2147483648:=by
   unfold posP
   split
   ·exact HS0.out.fail.num_le hL
   ·exact HS0.out.num_le hL
  unfold Hid I64
  omega
 go_wp2_with fail
 refine(positive_tok HS0.out hL hE).mono ?_
 rintro _ w1 ⟨v,rfl,h1,h2,rfl⟩
 have HS1:=hid h1
 have HR1:=hid (h2.blk HR0.out (by have:=HG.out;omega))
 have HC1:=hid (HC0.out.trans h2)
 clear h1 h2
 clear HR0 HC0 HS0
 obtain⟨V,hV⟩:∃x,(posP s).1=x:=⟨_,rfl⟩
 obtain⟨s1,hs1⟩:∃x,(posP s).2=x:=⟨_,rfl⟩
 rw[hV,hs1]at HM
 rw[hV]at HT1 ⊢
 rw[hs1]at HS1
 clear hV hs1
 go_upto_region 2 with fail
 have hx:=(Ext.refl w1).alloc (.cells #[.int .i64 V,.bool false] 88)
 have HR2:=hid (HR1.out.ext hx)
 have HC2:=hid (HC1.out.ext hx)
 have HS2:=hid (HS1.out.ext hx)
 have HBv_2:=hid (Blk.of_new w1 88 [.int .i64 V,.bool false])
 have HGv:Hid (g0<w1.heap.size):=HR1.out.lt
 clear hx
 clear HR1 HC1 HS1
 generalize w1.alloc (.cells #[.int .i64 V,.bool false] 88)=w2 at*
 generalize w1.heap.size=gv at*
 go_wp2_with fail
 refine(accept_any HS2.out hL kASC).mono ?_
 rintro _ w3 ⟨v,rfl,h1,h2,rfl⟩
 have HS3:=hid h1
 have HR3:=hid (h2.blk HR2.out (by have:=HG.out;omega))
 have HC3:=hid (HC2.out.trans h2)
 have HBv_3:=hid (h2.blk HBv_2.out (by have:=HG.out;have:=HGv.out;omega))
 clear h1 h2
 clear HR2 HC2 HS2 HBv_2
 cases hb3:isS kASC s1
 ·have e:(accP kASC s1).2=s1:=by simp[accP,hb3]
  rw[e]at HS3
  clear e
  go_wp2_with fail
  refine(accept_any HS3.out hL kDESC).mono ?_
  rintro _ w4 ⟨v,rfl,h1,h2,rfl⟩
  have HS4:=hid h1
  have HR4:=hid (h2.blk HR3.out (by have:=HG.out;omega))
  have HC4:=hid (HC3.out.trans h2)
  have HBv_4:=hid (h2.blk HBv_3.out (by have:=HG.out;have:=HGv.out;omega))
  clear h1 h2
  clear HR3 HC3 HS3 HBv_3
  cases hb4:isS kDESC s1
  ·have e:(accP kDESC s1).2=s1:=by simp[accP,hb4]
   rw[e]at HS4
   clear e
   have z9:=HBv_4.out.cell_some (i:=1) rfl
   have y9:=HBv_4.out.frozen 1
   have hgr:=sts_grown gv [.bool false] w4 1
   simp only[sts]at hgr
   have HS5:=hid (HS4.out.grown hgr (fun q hq=>by have:=Option.some.inj hq;have:=HG.out;have:=HGv.out;omega))
   have HR5:=hid (HR4.out.grown hgr (fun e=>by have:=Option.some.inj e;have:=HGv.out;omega))
   have HC5:=hid (HC4.out.own hgr (fun q hq=>by have:=Option.some.inj hq;have:=HGv.out;rw[HN0.out];omega))
   have HBv_5:=hid (HBv_4.out.set 1 (.bool false))
   clear hgr
   clear HR4 HC4 HS4 HBv_4
   go_upto_region 4 with fail
   generalize w4.setCell ⟨gv,1,none⟩ (.bool false)=w5 at*
   clear z9 y9
   obtain⟨b0,b1,-⟩:=cls HBv_5.out
   have HRv:Hid (R.1=⟨V,false⟩):=by
    rw[HM.out,hb3,hb4]
    rfl
   have HRs:Hid (R.2=s1):=by
    rw[HM.out,hb3,hb4]
    rfl
   obtain⟨z0,z1,-⟩:=cls HR5.out
   have y0:=HR5.out.frozen 0
   have y1:=HR5.out.frozen 1
   have hz:=sts_blk HR5.out [.int .i64 V,.bool false] rfl
   have HGr:=hid (sts_grown g0 [.int .i64 V,.bool false] w5 0)
   simp only[sts]at hz
   have HZ:=hid hz
   clear hz
   go_wp2_with fail
   obtain⟨q0,q1,-⟩:=cls HZ.out
   exact bodyPost_ret (v:= .agg #[.int .i64 V,.bool false]) (by simp[results,Tryz.results108,go_sem,q0,q1]) rfl ⟨_,rfl,by rw[HRs.out];exact HS5.out.grown HGr.out (fun q hq=>by have:=HG.out;have:=Option.some.inj hq;omega),HC5.out.own HGr.out (fun q hq=>by have:=Option.some.inj hq;rw[HN0.out];omega),by rw[HRv.out];exact⟨rfl,HT1.out⟩⟩
  ·have e:(accP kDESC s1).2=s1.next:=by simp[accP,hb4]
   rw[e]at HS4
   clear e
   have z9:=HBv_4.out.cell_some (i:=1) rfl
   have y9:=HBv_4.out.frozen 1
   have hgr:=sts_grown gv [.bool true] w4 1
   simp only[sts]at hgr
   have HS5:=hid (HS4.out.grown hgr (fun q hq=>by have:=Option.some.inj hq;have:=HG.out;have:=HGv.out;omega))
   have HR5:=hid (HR4.out.grown hgr (fun e=>by have:=Option.some.inj e;have:=HGv.out;omega))
   have HC5:=hid (HC4.out.own hgr (fun q hq=>by have:=Option.some.inj hq;have:=HGv.out;rw[HN0.out];omega))
   have HBv_5:=hid (HBv_4.out.set 1 (.bool true))
   clear hgr
   clear HR4 HC4 HS4 HBv_4
   go_upto_region 4 with fail
   generalize w4.setCell ⟨gv,1,none⟩ (.bool true)=w5 at*
   clear z9 y9
   obtain⟨b0,b1,-⟩:=cls HBv_5.out
   have HRv:Hid (R.1=⟨V,true⟩):=by
    rw[HM.out,hb3,hb4]
    rfl
   have HRs:Hid (R.2=s1.next):=by
    rw[HM.out,hb3,hb4]
    rfl
   obtain⟨z0,z1,-⟩:=cls HR5.out
   have y0:=HR5.out.frozen 0
   have y1:=HR5.out.frozen 1
   have hz:=sts_blk HR5.out [.int .i64 V,.bool true] rfl
   have HGr:=hid (sts_grown g0 [.int .i64 V,.bool true] w5 0)
   simp only[sts]at hz
   have HZ:=hid hz
   clear hz
   go_wp2_with fail
   obtain⟨q0,q1,-⟩:=cls HZ.out
   exact bodyPost_ret (v:= .agg #[.int .i64 V,.bool true]) (by simp[results,Tryz.results108,go_sem,q0,q1]) rfl ⟨_,rfl,by rw[HRs.out];exact HS5.out.grown HGr.out (fun q hq=>by have:=HG.out;have:=Option.some.inj hq;omega),HC5.out.own HGr.out (fun q hq=>by have:=Option.some.inj hq;rw[HN0.out];omega),by rw[HRv.out];exact⟨rfl,HT1.out⟩⟩
 ·have e:(accP kASC s1).2=s1.next:=by simp[accP,hb3]
  rw[e]at HS3
  clear e
  obtain⟨b0,b1,-⟩:=cls HBv_3.out
  have HRv:Hid (R.1=⟨V,false⟩):=by
   rw[HM.out,hb3]
   rfl
  have HRs:Hid (R.2=s1.next):=by
   rw[HM.out,hb3]
   rfl
  obtain⟨z0,z1,-⟩:=cls HR3.out
  have y0:=HR3.out.frozen 0
  have y1:=HR3.out.frozen 1
  have hz:=sts_blk HR3.out [.int .i64 V,.bool false] rfl
  have HGr:=hid (sts_grown g0 [.int .i64 V,.bool false] w3 0)
  simp only[sts]at hz
  have HZ:=hid hz
  clear hz
  go_wp2_with fail
  obtain⟨q0,q1,-⟩:=cls HZ.out
  exact bodyPost_ret (v:= .agg #[.int .i64 V,.bool false]) (by simp[results,Tryz.results108,go_sem,q0,q1]) rfl ⟨_,rfl,by rw[HRs.out];exact HS3.out.grown HGr.out (fun q hq=>by have:=HG.out;have:=Option.some.inj hq;omega),HC3.out.own HGr.out (fun q hq=>by have:=Option.some.inj hq;rw[HN0.out];omega),by rw[HRv.out];exact⟨rfl,HT1.out⟩⟩
end
end
section
open Lx (Tk)
theorem ba_beq (a b:ByteArray):(a==b)=decide (a=b):=by
 cases a with|mk a=>cases b with|mk b=>
 show(a==b)=_
 rw[Bool.eq_iff_iff]
 simp
def StrMap (w:World) (P:Program) (k e:TypeId) (M n:Nat) (l:List ByteArray):Prop:=
 ∃D:DataW Unit,w.ownsMap P k (plainElem P e) M n D∧Maps.IsMap D∧∀s:ByteArray,D.atKey (.string s.data.toList) (.lit (.bool false))= .lit (.bool (l.contains s))
section
variable {P:Program} {w w':World} {k e M n:Nat} {l:List ByteArray}
theorem StrMap.lt (h:StrMap w P k e M n l):M<w.heap.size:=by
 obtain⟨D,h,_⟩:=h
 exact h.lt
theorem StrMap.mono (h:StrMap w P k e M n l) {m:Nat} (hm:n≤m):StrMap w P k e M m l:=by
 obtain⟨D,h,h2⟩:=h
 exact⟨D,h.mono hm,h2⟩
theorem StrMap.kept (h:StrMap w P k e M n l) {row:Option Nat} (hg:w.grownBy w' row) (hne:some M≠row):StrMap w' P k e M n l:=by
 obtain⟨D,h,h2⟩:=h
 exact⟨D,h.kept hg hne,h2⟩
theorem StrMap.ext (h:StrMap w P k e M n l) (hx:Ext w w'):StrMap w' P k e M n l:=h.kept (row:=none) (ext_grown hx none) (by simp)
theorem StrMap.add (h:StrMap w P k e M n l) {t:TypeId} (hk:P.underlying k=some .string) (ht:P.underlying t=some (.map k e)) (he:P.underlying e=some .bool) (hn:n<maxLen)
  (s:ByteArray) (hs:s.size≤maxLen):∃w',(Instr.mapUpdate t (.map (some M)) (.string s) (.bool true)).run P w= .ok () w'∧StrMap w' P k e M (n+1) (l++ [s])∧w.grownBy w' (some M):=by
 obtain⟨D,h,hI,h1⟩:=h
 obtain⟨w',hrun,h',hg⟩:=h.update (Maps.string_keyed hk) ht hn (WideMaps.keyOf_string_mk hk hs) (plainElem_bool he true)
 refine⟨w',hrun,⟨_,h',hI.put _ _,fun x=>?_⟩,hg⟩
 by_cases hx:x=s
 ·subst hx
  rw[Maps.atKey_put_same hI (by simp[WideAt.IsKeyLit])]
  simp[ba_beq]
 ·rw[Maps.atKey_put_other (by
   intro he
   apply hx
   injection he with he
   cases x;cases s
   simp at he
   simp[he]),h1]
  simp[hx,ba_beq]
end
theorem Stb.turn {S S':Nat→Prop} {w w':World} {Φ:World→Prop} {b:Option Nat} (h:Stb S w Φ) (hg:w.grownBy w' b) (hS:∀q,q<w.heap.size→S q→b≠some q∧S' q):Stb S' w' Φ:=by
 have h1:=(h.weak (S':=fun q=>S' q∧b≠some q) fun q hq hs=>⟨(hS q hq hs).2,(hS q hq hs).1⟩).grown hg fun q hq=>hq.2
 intro w2 hs2 hk
 exact h1 w2 hs2 fun q hq hh=>hk q hq hh.1
structure RowT {α:Type} (Φ:α→List Value→World→Prop) (T sz n0:Nat) (S:Nat→Prop) (w:World) (v:Value) (l:List α) (css:List (List Value)):Prop where
 len:css.length=l.length
 each:∀cs∈css,cs.length=sz
 own:w.ownsRow n0 T sz v l.length css.flatten
 at_:∀(i:Nat) (a:α) (cs:List Value),l[i]? =some a→css[i]? =some cs→Stb S w (Φ a cs)
section
variable {α:Type} {Φ:α→List Value→World→Prop} {T sz n0 P:Nat} {S S':Nat→Prop} {w w':World} {v v':Value} {l:List α} {css:List (List Value)} {b:Option Nat}
theorem RowT.turn (h:RowT Φ T sz n0 S w v l css) (hg:w.grownBy w' b) (hv:v.ownBlock=none∨v.ownBlock≠b) (hS:∀q,q<w.heap.size→S q→b≠some q∧S' q):RowT Φ T sz n0 S' w' v l css:=
 ⟨h.len,h.each,h.own.kept hg hv,fun i a cs hi hcs=> (h.at_ i a cs hi hcs).turn hg hS⟩
theorem RowT.push (h:RowT Φ T sz n0 S w v l css) {a:α} {cs:List Value} (hl:cs.length=sz) (ho:w'.ownsRow n0 T sz v' (l.length+1) (css.flatten++cs)) (hg:w.grownBy w' v.ownBlock)
  (hS:∀q,q<w.heap.size→S q→v.ownBlock≠some q∧S' q) (ha:Stb S w (Φ a cs)):RowT Φ T sz n0 S' w' v' (l++ [a]) (css++ [cs]):=by
 refine⟨by simp[h.len],fun x hx=>?_,by simpa using ho,fun i b ds hi hds=>?_⟩
 ·rcases List.mem_append.1 hx with hx|hx
  ·exact h.each x hx
  ·rw[List.mem_singleton.1 hx];exact hl
 ·by_cases hi2:i<l.length
  ·rw[List.getElem?_append_left hi2]at hi
   rw[List.getElem?_append_left (by rw[h.len];exact hi2)]at hds
   exact(h.at_ i b ds hi hds).turn hg hS
  ·have h1:=(List.getElem?_eq_some_iff.1 hi).1
   rw[List.length_append,List.length_singleton]at h1
   obtain rfl:i=l.length:=by omega
   rw[List.getElem?_append_right (Nat.le_refl _),Nat.sub_self]at hi
   rw[←h.len,List.getElem?_append_right (Nat.le_refl _),Nat.sub_self]at hds
   simp at hi hds
   subst hi hds
   exact ha.turn hg hS
theorem RowT.nil (Φ:α→List Value→World→Prop) (T sz n0:Nat) (S:Nat→Prop) (w:World):RowT Φ T sz n0 S w (.slice none 0 0) [] []:=
 ⟨rfl,fun _ h=>by simp at h,World.ownsRow_nil _ _ _ _,fun i a cs h=>by simp at h⟩
theorem RowT.fin (h:RowT Φ T sz n0 S w v l css) (hS:∀q,S q→n0≤q):∃A c,v= .slice A l.length c∧Stb (n0≤·) w (fun w2=>Lst Φ sz w2 A l):=by
 rcases h.own.2 with ⟨hv,h0⟩|⟨g,cap,cur,hv,hg,hh,hnc,hcm,hcs,htk⟩
 ·refine⟨none,0,by rw[hv,h0],fun w2 _ _ i a hi=>?_⟩
  have:=(List.getElem?_eq_some_iff.1 hi).1
  omega
 ·refine⟨some ⟨g,0,none⟩,cap,hv,fun w2 hs hk i a hi=>?_⟩
  have hil:=(List.getElem?_eq_some_iff.1 hi).1
  obtain⟨cs,hc⟩:∃cs,css[i]? =some cs:=⟨_,List.getElem?_eq_getElem (by rw[h.len];exact hil)⟩
  have hgl:g<w.heap.size:=(Array.getElem?_eq_some_iff.1 hh).1
  refine⟨cs,h.each cs (List.mem_of_getElem? hc),⟨g,0,rfl,fun j u hu=>?_⟩,(h.at_ i a cs hi hc) w2 hs fun q hq hS'=>hk q hq (hS q hS')⟩
  have h1:=flat_get css h.each i j cs u hc hu
  rw[←htk,List.getElem?_take]at h1
  have hg2:=(hk g hgl hg).trans hh
  split at h1
  ·rw[Nat.zero_add]
   simp[World.cell?,hg2]
   simpa using h1
  ·cases h1
end
def Phicol (a:Cd) (cs:List Value) (w:World):Prop:=cs= [.string a.nm,.int .i64 a.ty,.int .i64 a.lo,.int .i64 a.hi,.int .i64 a.mx,.bool a.nn]∧a.nm.size≤9223372036854775807∧I64 a.ty∧I64 a.lo∧I64 a.hi∧I64 a.mx
def Phikey (a:List ByteArray) (cs:List Value) (w:World):Prop:=∃B k,cs= [.slice B a.length k]∧(a.length≤20001∧a.length≤k)∧StrsAt w B a
def Phifrn (a:Rf) (cs:List Value) (w:World):Prop:=∃B k B2 k2,cs= [.slice B a.cs.length k,.string a.tb,.slice B2 a.tg.length k2]∧a.tb.size≤9223372036854775807∧(a.cs.length≤20001∧a.cs.length≤k)∧(a.tg.length≤20001∧a.tg.length≤k2)∧StrsAt w B a.cs∧StrsAt w B2 a.tg
structure DV where
 vc:Value
 vk:Value
 vf:Value
 vx:Value
 cc:List (List Value)
 ck:List (List Value)
 cf:List (List Value)
 cx:List (List Value)
structure Sf (n0:Nat) (bs:List Nat) (D:DV) (q:Nat):Prop where
 ge:n0≤q
 c:D.vc.ownBlock≠some q
 k:D.vk.ownBlock≠some q
 f:D.vf.ownBlock≠some q
 x:D.vx.ownBlock≠some q
 b:q∉bs
structure Dfw (n0:Nat) (bs:List Nat) (w:World) (D:DV) (d:Df):Prop where
 c:RowT Phicol 99 6 n0 (Sf n0 bs D) w D.vc d.cols D.cc
 k:RowT Phikey 101 1 n0 (Sf n0 bs D) w D.vk d.keys D.ck
 f:RowT Phifrn 103 3 n0 (Sf n0 bs D) w D.vf d.frs D.cf
 x:RowT Phiex 37 8 n0 (Sf n0 bs D) w D.vx d.chk D.cx
 dc:∀q,D.vc.ownBlock=some q→D.vk.ownBlock≠some q∧D.vf.ownBlock≠some q∧D.vx.ownBlock≠some q∧q∉bs
 dk:∀q,D.vk.ownBlock=some q→D.vf.ownBlock≠some q∧D.vx.ownBlock≠some q∧q∉bs
 df:∀q,D.vf.ownBlock=some q→D.vx.ownBlock≠some q∧q∉bs
 dx:∀q,D.vx.ownBlock=some q→q∉bs
def dv0:DV:=⟨.slice none 0 0,.slice none 0 0,.slice none 0 0,.slice none 0 0,[],[],[],[]⟩
section
variable {n0:Nat} {bs bs':List Nat} {w w':World} {D:DV} {d:Df} {b:Option Nat}
theorem Dfw.start (n0:Nat) (bs:List Nat) (w:World):Dfw n0 bs w dv0 ⟨[],[],[],[]⟩:=
 ⟨RowT.nil _ _ _ _ _ _,RowT.nil _ _ _ _ _ _,RowT.nil _ _ _ _ _ _,RowT.nil _ _ _ _ _ _,(fun q h=>nomatch h),(fun q h=>nomatch h),(fun q h=>nomatch h),(fun q h=>nomatch h)⟩
theorem Dfw.turn (h:Dfw n0 bs w D d) (hg:w.grownBy w' b) (hb:∀q,b=some q→q<n0∨q∈bs) (hbs:∀q∈bs',q∈bs∨w.heap.size≤q):Dfw n0 bs' w' D d:=by
 have key:∀ {v:Value} {T sz n:Nat} {xs:List Value},w.ownsRow n0 T sz v n xs→(∀q,v.ownBlock=some q→q∉bs)→v.ownBlock=none∨v.ownBlock≠b:=fun {v T sz n xs} ho hd=>by
  cases hv:v.ownBlock with
  |none=>exact .inl rfl
  |some q=>
   refine .inr fun e=>?_
   rcases hb q e.symm with h1|h1
   ·have:=(ho.lt q hv).1
    omega
   ·exact hd q hv h1
 have hS:∀q,q<w.heap.size→Sf n0 bs D q→b≠some q∧Sf n0 bs' D q:=fun q hq hs=>
  ⟨fun e=>by
   rcases hb q e with h1|h1
   ·have:=hs.ge
    omega
   ·exact hs.b h1,hs.ge,hs.c,hs.k,hs.f,hs.x,fun hm=>by
   rcases hbs q hm with h1|h1
   ·exact hs.b h1
   ·omega⟩
 have hn:∀ {v:Value} {T sz n:Nat} {xs:List Value},w.ownsRow n0 T sz v n xs→(∀q,v.ownBlock=some q→q∉bs)→∀q,v.ownBlock=some q→q∉bs':=fun ho hd q hq hm=>by
  rcases hbs q hm with h1|h1
  ·exact hd q hq h1
  ·have:=(ho.lt q hq).2
   omega
 exact⟨h.c.turn hg (key h.c.own fun q hq=> (h.dc q hq).2.2.2) hS,h.k.turn hg (key h.k.own fun q hq=> (h.dk q hq).2.2) hS,h.f.turn hg (key h.f.own fun q hq=> (h.df q hq).2) hS,h.x.turn hg (key h.x.own h.dx) hS,
  fun q hq=>⟨(h.dc q hq).1,(h.dc q hq).2.1,(h.dc q hq).2.2.1,hn h.c.own (fun q hq=> (h.dc q hq).2.2.2) q hq⟩,fun q hq=>⟨(h.dk q hq).1,(h.dk q hq).2.1,hn h.k.own (fun q hq=> (h.dk q hq).2.2) q hq⟩,
  fun q hq=>⟨(h.df q hq).1,hn h.f.own (fun q hq=> (h.df q hq).2) q hq⟩,fun q hq=>hn h.x.own h.dx q hq⟩
theorem Dfw.ext (h:Dfw n0 bs w D d) (hx:Ext w w'):Dfw n0 bs w' D d:=h.turn (ext_grown hx none) (fun q e=>by cases e) fun q hq=> .inl hq
theorem Dfw.chg {P:Nat} (h:Dfw n0 bs w D d) (hc:Chg P w w') (hP:P<n0):Dfw n0 bs w' D d:=h.turn hc (fun q e=> .inl (by rw[←Option.some.inj e];exact hP)) fun q hq=> .inl hq
theorem Dfw.fresh (h:Dfw n0 bs w D d) (hbs:∀q∈bs,q<w.heap.size) (hn:n0≤w.heap.size) {q:Nat} (hq:w.heap.size≤q):Sf n0 bs D q:=
 ⟨Nat.le_trans hn hq,fun e=>by have:=(h.c.own.lt q e).2;omega,fun e=>by have:=(h.k.own.lt q e).2;omega,fun e=>by have:=(h.f.own.lt q e).2;omega,fun e=>by have:=(h.x.own.lt q e).2;omega,fun e=>by have:=hbs q e;omega⟩
theorem Dfw.fine (h:Dfw n0 bs w D d) (hbs:∀q∈bs,q<w.heap.size) (hn:n0≤w.heap.size) {w2:World} {Φ:World→Prop} (hs:Stb (w.heap.size≤·) w2 Φ):Stb (Sf n0 bs D) w2 Φ:=hs.weak fun q _ hq=>h.fresh hbs hn hq
theorem Dfw.pushf (h:Dfw n0 bs w D d) {y:Rf} {cs:List Value} {v':Value} (hl:cs.length=3) (ho:w'.ownsRow n0 103 3 v' (d.frs.length+1) (D.cf.flatten++cs)) (hg:w.grownBy w' D.vf.ownBlock)
  (hb:v'.ownBlock=D.vf.ownBlock∨v'.ownBlock=some w.heap.size) (hbs:∀q∈bs,q<w.heap.size) (ha:Stb (Sf n0 bs D) w (Phifrn y cs)):Dfw n0 bs w' { D with vf:=v',cf:=D.cf++ [cs] } { d with frs:=d.frs++ [y] } :=by
 have hne:∀q,q<w.heap.size→D.vf.ownBlock≠some q→v'.ownBlock≠some q:=fun q hq hs e=>by
  rcases hb with hb|hb
  ·exact hs (hb.symm.trans e)
  ·rw[hb]at e
   have:=Option.some.inj e
   omega
 have hS:∀q,q<w.heap.size→Sf n0 bs D q→D.vf.ownBlock≠some q∧Sf n0 bs { D with vf:=v',cf:=D.cf++ [cs] } q:=fun q hq hs=>
  ⟨hs.f,hs.ge,hs.c,hs.k,hne q hq hs.f,hs.x,hs.b⟩
 have hold:∀q,v'.ownBlock=some q→D.vf.ownBlock=some q∨q=w.heap.size:=fun q e=>by
  rcases hb with hb|hb
  ·exact .inl (hb.symm.trans e)
  ·exact .inr (Option.some.inj (hb.symm.trans e)).symm
 have kc:D.vc.ownBlock=none∨D.vc.ownBlock≠D.vf.ownBlock:=by
  cases hv:D.vc.ownBlock with
  |none=>exact .inl rfl
  |some q=>exact .inr fun e=> (h.dc q hv).2.1 e.symm
 have kk:D.vk.ownBlock=none∨D.vk.ownBlock≠D.vf.ownBlock:=by
  cases hv:D.vk.ownBlock with
  |none=>exact .inl rfl
  |some q=>exact .inr fun e=> (h.dk q hv).1 e.symm
 have kx:D.vx.ownBlock=none∨D.vx.ownBlock≠D.vf.ownBlock:=by
  cases hv:D.vx.ownBlock with
  |none=>exact .inl rfl
  |some q=>exact .inr fun e=> (fun e=> (h.df q e).1 hv) e.symm
 exact⟨h.c.turn hg kc hS,h.k.turn hg kk hS,h.f.push hl ho hg hS ha,h.x.turn hg kx hS,fun q hq=>⟨(h.dc q hq).1,(fun e2=> (hold q e2).elim (fun e=> (h.dc q hq).2.1 e) fun e=>by have:=(h.c.own.lt q hq).2;omega),(h.dc q hq).2.2.1,(h.dc q hq).2.2.2⟩,fun q hq=>⟨(fun e2=> (hold q e2).elim (fun e=> (h.dk q hq).1 e) fun e=>by have:=(h.k.own.lt q hq).2;omega),(h.dk q hq).2.1,(h.dk q hq).2.2⟩,fun q hq=>⟨((hold q hq).elim (fun e=> (h.df q e).1) fun e e2=>by have:=(h.x.own.lt q e2).2;omega),((hold q hq).elim (fun e=> (h.df q e).2) fun e hm=>by have:=hbs q hm;omega)⟩,fun q hq=> (h.dx q hq)⟩
theorem Dfw.pushx (h:Dfw n0 bs w D d) {y:Ex} {cs:List Value} {v':Value} (hl:cs.length=8) (ho:w'.ownsRow n0 37 8 v' (d.chk.length+1) (D.cx.flatten++cs)) (hg:w.grownBy w' D.vx.ownBlock)
  (hb:v'.ownBlock=D.vx.ownBlock∨v'.ownBlock=some w.heap.size) (hbs:∀q∈bs,q<w.heap.size) (ha:Stb (Sf n0 bs D) w (Phiex y cs)):Dfw n0 bs w' { D with vx:=v',cx:=D.cx++ [cs] } { d with chk:=d.chk++ [y] } :=by
 have hne:∀q,q<w.heap.size→D.vx.ownBlock≠some q→v'.ownBlock≠some q:=fun q hq hs e=>by
  rcases hb with hb|hb
  ·exact hs (hb.symm.trans e)
  ·rw[hb]at e
   have:=Option.some.inj e
   omega
 have hS:∀q,q<w.heap.size→Sf n0 bs D q→D.vx.ownBlock≠some q∧Sf n0 bs { D with vx:=v',cx:=D.cx++ [cs] } q:=fun q hq hs=>
  ⟨hs.x,hs.ge,hs.c,hs.k,hs.f,hne q hq hs.x,hs.b⟩
 have hold:∀q,v'.ownBlock=some q→D.vx.ownBlock=some q∨q=w.heap.size:=fun q e=>by
  rcases hb with hb|hb
  ·exact .inl (hb.symm.trans e)
  ·exact .inr (Option.some.inj (hb.symm.trans e)).symm
 have kc:D.vc.ownBlock=none∨D.vc.ownBlock≠D.vx.ownBlock:=by
  cases hv:D.vc.ownBlock with
  |none=>exact .inl rfl
  |some q=>exact .inr fun e=> (h.dc q hv).2.2.1 e.symm
 have kk:D.vk.ownBlock=none∨D.vk.ownBlock≠D.vx.ownBlock:=by
  cases hv:D.vk.ownBlock with
  |none=>exact .inl rfl
  |some q=>exact .inr fun e=> (h.dk q hv).2.1 e.symm
 have kf:D.vf.ownBlock=none∨D.vf.ownBlock≠D.vx.ownBlock:=by
  cases hv:D.vf.ownBlock with
  |none=>exact .inl rfl
  |some q=>exact .inr fun e=> (h.df q hv).1 e.symm
 exact⟨h.c.turn hg kc hS,h.k.turn hg kk hS,h.f.turn hg kf hS,h.x.push hl ho hg hS ha,fun q hq=>⟨(h.dc q hq).1,(h.dc q hq).2.1,(fun e2=> (hold q e2).elim (fun e=> (h.dc q hq).2.2.1 e) fun e=>by have:=(h.c.own.lt q hq).2;omega),(h.dc q hq).2.2.2⟩,fun q hq=>⟨(h.dk q hq).1,(fun e2=> (hold q e2).elim (fun e=> (h.dk q hq).2.1 e) fun e=>by have:=(h.k.own.lt q hq).2;omega),(h.dk q hq).2.2⟩,fun q hq=>⟨(fun e2=> (hold q e2).elim (fun e=> (h.df q hq).1 e) fun e=>by have:=(h.f.own.lt q hq).2;omega),(h.df q hq).2⟩,fun q hq=> ((hold q hq).elim (fun e=> (h.dx q e)) fun e hm=>by have:=hbs q hm;omega)⟩
end
theorem nOwn_set {w:World} {B T sz n c g:Nat} {xs:List Value} (h:w.ownsRow B T sz (.slice (some ⟨g,0,none⟩) n c) n xs) {j:Nat} (hj:j<xs.length) (u:Value):(w.setCell ⟨g,j,none⟩ u).ownsRow B T sz (.slice (some ⟨g,0,none⟩) n c) n (xs.set j u):=by
 obtain⟨h1,h2⟩:=h
 refine⟨by simpa using h1,?_⟩
 rcases h2 with ⟨h2,_⟩|⟨g2,cap,cur,hv,hg,hh,hn,hc,hs,ht⟩
 ·cases h2
 ·simp only[Value.slice.injEq,Option.some.injEq,Addr.mk.injEq,and_true,true_and]at hv
  obtain⟨rfl,rfl⟩:=hv
  refine .inr ⟨g,c,cur.setIfInBounds j u,rfl,hg,?_,hn,hc,by simpa using hs,?_⟩
  ·simp[World.setCell,Array.getElem?_modify,hh]
  ·rw[←ht]
   apply List.ext_getElem?
   intro i
   rw[List.getElem?_take,List.getElem?_set]
   have hj2:j<n*sz:=by omega
   have hjc:j<cur.size:=by
    have:=congrArg List.length ht
    simp at this
    omega
   by_cases hi:i<n*sz
   ·rw[if_pos hi]
    by_cases hij:j=i
    ·subst hij
     simp[hjc,hj2]
     try omega
    ·simp[hij,List.getElem?_take,hi,List.getElem?_set]
   ·rw[if_neg hi,if_neg (by omega),List.getElem?_take,if_neg hi]
theorem nOwn_frozen {w:World} {B T sz n c g:Nat} {xs:List Value} (h:w.ownsRow B T sz (.slice (some ⟨g,0,none⟩) n c) n xs) (j:Nat):w.frozen? ⟨g,j,none⟩=false:=by
 rcases h.2 with ⟨h2,_⟩|⟨g2,cap,cur,hv,hg,hh,_⟩
 ·cases h2
 ·simp only[Value.slice.injEq,Option.some.injEq,Addr.mk.injEq,and_true,true_and]at hv
  obtain⟨rfl,rfl⟩:=hv
  simp[World.frozen?,hh]
end
section
open Lx (Tk)
structure Chn (n0 P:Nat) (w w':World):Prop where
 os:w'.os=w.os
 tape:w'.tape=w.tape
 output:w'.output=w.output
 size:w.heap.size≤w'.heap.size
 keep:∀i,i<n0→i≠P→w'.heap[i]? =w.heap[i]?
section
variable {n0 P:Nat} {a b c w w':World}
theorem Chn.refl (n0 P:Nat) (w:World):Chn n0 P w w:=⟨rfl,rfl,rfl,Nat.le_refl _,fun _ _ _=>rfl⟩
theorem Chn.trans (h:Chn n0 P a b) (k:Chn n0 P b c):Chn n0 P a c:=⟨k.os.trans h.os,k.tape.trans h.tape,k.output.trans h.output,Nat.le_trans h.size k.size,fun i hi hP=> (k.keep i hi hP).trans (h.keep i hi hP)⟩
theorem Chn.chg (h:Chn n0 P a b) (k:Chg P b c) (hn:n0≤b.heap.size):Chn n0 P a c:=h.trans ⟨World.grownBy.os k,World.grownBy.tape k,World.grownBy.output k,World.grownBy.size k,fun i hi hP=>World.grownBy.block k i (Nat.lt_of_lt_of_le hi hn) fun e=>hP (Option.some.inj e)⟩
theorem Chn.ext (h:Chn n0 P a b) (k:Ext b c) (hn:n0≤b.heap.size):Chn n0 P a c:=h.chg (Chg.of k) hn
theorem Chn.own (h:Chn n0 P a b) {q:Option Nat} (k:b.grownBy c q) (hq:∀j,q=some j→n0≤j) (hn:n0≤b.heap.size):Chn n0 P a c:=
 h.trans ⟨World.grownBy.os k,World.grownBy.tape k,World.grownBy.output k,World.grownBy.size k,fun i hi hP=>World.grownBy.block k i (Nat.lt_of_lt_of_le hi hn) fun e=>by have:=hq i e.symm;omega⟩
theorem Chn.blk (h:Chn n0 P a b) {g t:Nat} {cs:List Value} (hb:Blk a g t cs) (hg:g<n0) (hne:g≠P):Blk b g t cs:=(h.keep g hg hne).trans hb
theorem Chn.stb (h:Chn n0 P a b) {S:Nat→Prop} {Φ:World→Prop} (hs:Stb S a Φ) (hS:∀q,S q→q<n0∧q≠P):Stb S b Φ:=hs.step h.size fun q _ hq=>h.keep q (hS q hq).1 (hS q hq).2
end
theorem set_grown (w:World) (g j:Nat) (u:Value):w.grownBy (w.setCell ⟨g,j,none⟩ u) (some g):=⟨rfl,rfl,rfl,by simp[World.setCell],fun i _ hi=>Below.heap_setCell w ⟨g,j,none⟩ u i (fun e=>hi (by rw[e]))⟩
structure DefAt (n0 gs M:Nat) (T K0 K1:TypeId) (x0 x1:Value) (post:List Value) (w:World) (D:DV) (d:Df) (l:List ByteArray):Prop where
 hgs:n0≤gs
 hM:n0≤M
 ne:gs≠M
 n:n0≤w.heap.size
 blk:Blk w gs T (x0::x1::D.vc::D.vk::D.vf::D.vx::post)
 map:StrMap w Tryz.prog K0 K1 M l.length l
 df:Dfw n0 [gs,M] w D d
section
variable {n0 gs M P:Nat} {T K0 K1:TypeId} {x0 x1:Value} {post:List Value} {w w':World} {D:DV} {d:Df} {l:List ByteArray}
theorem DefAt.bs (h:DefAt n0 gs M T K0 K1 x0 x1 post w D d l):∀q∈[gs,M],q<w.heap.size:=fun q hq=>by
 simp only[List.mem_cons,List.not_mem_nil,or_false]at hq
 rcases hq with rfl|rfl
 ·exact h.blk.lt
 ·exact h.map.lt
theorem DefAt.chg (h:DefAt n0 gs M T K0 K1 x0 x1 post w D d l) (hc:Chg P w w') (hP:P<n0):DefAt n0 gs M T K0 K1 x0 x1 post w' D d l:=
 ⟨h.hgs,h.hM,h.ne,Nat.le_trans h.n hc.size,hc.blk h.blk (by have:=h.hgs;omega),h.map.kept hc (fun e=>by have:=Option.some.inj e;have:=h.hM;omega),h.df.chg hc hP⟩
theorem DefAt.ext (h:DefAt n0 gs M T K0 K1 x0 x1 post w D d l) (hx:Ext w w'):DefAt n0 gs M T K0 K1 x0 x1 post w' D d l:=
 ⟨h.hgs,h.hM,h.ne,Nat.le_trans h.n hx.size,h.blk.ext hx,h.map.ext hx,h.df.ext hx⟩
theorem DefAt.put (h:DefAt n0 gs M T K0 K1 x0 x1 post w D d l) {s:ByteArray} (hg:w.grownBy w' (some M)) (hm:StrMap w' Tryz.prog K0 K1 M (l.length+1) (l++ [s])):DefAt n0 gs M T K0 K1 x0 x1 post w' D d (l++ [s]):=
 ⟨h.hgs,h.hM,h.ne,Nat.le_trans h.n (World.grownBy.size hg),h.blk.grown hg (fun e=>h.ne (Option.some.inj e)),by rw[List.length_append];exact hm,h.df.turn hg (fun q e=> .inr (by rw[←Option.some.inj e];simp)) fun q hq=> .inl hq⟩
theorem DefAt.gec (h:DefAt n0 gs M T K0 K1 x0 x1 post w D d l):∀q,D.vc.ownBlock=some q→n0≤q:=fun q e=> (h.df.c.own.lt q e).1
theorem DefAt.nef (h:DefAt n0 gs M T K0 K1 x0 x1 post w D d l):some gs≠D.vf.ownBlock∧some M≠D.vf.ownBlock:=
 ⟨fun e=> (h.df.df gs e.symm).2 (by simp),fun e=> (h.df.df M e.symm).2 (by simp)⟩
theorem DefAt.gef (h:DefAt n0 gs M T K0 K1 x0 x1 post w D d l):∀q,D.vf.ownBlock=some q→n0≤q:=fun q e=> (h.df.f.own.lt q e).1
theorem DefAt.pushf (h:DefAt n0 gs M T K0 K1 x0 x1 post w D d l) {y:Rf} {cs:List Value} {v':Value} (hl:cs.length=3) (ho:w'.ownsRow n0 103 3 v' (d.frs.length+1) (D.cf.flatten++cs)) (hg:w.grownBy w' D.vf.ownBlock)
  (hb:v'.ownBlock=D.vf.ownBlock∨v'.ownBlock=some w.heap.size) (ha:Stb (Sf n0 [gs,M] D) w (Phifrn y cs)):
  DefAt n0 gs M T K0 K1 x0 x1 post (w'.setCell ⟨gs,4,none⟩ v') { D with vf:=v',cf:=D.cf++ [cs] } { d with frs:=d.frs++ [y] } l:=by
 have h1:=h.df.pushf hl ho hg hb h.bs ha
 have hs:=set_grown w' gs 4 v'
 refine⟨h.hgs,h.hM,h.ne,Nat.le_trans h.n (Nat.le_trans (World.grownBy.size hg) (World.grownBy.size hs)),(h.blk.grown hg h.nef.1).set 4 v',(h.map.kept hg h.nef.2).kept hs (fun e=>h.ne (Option.some.inj e).symm),h1.turn hs (fun q e=> .inr (by rw[←Option.some.inj e];simp)) fun q hq=> .inl hq⟩
theorem DefAt.nex (h:DefAt n0 gs M T K0 K1 x0 x1 post w D d l):some gs≠D.vx.ownBlock∧some M≠D.vx.ownBlock:=
 ⟨fun e=> (h.df.dx gs e.symm) (by simp),fun e=> (h.df.dx M e.symm) (by simp)⟩
theorem DefAt.gex (h:DefAt n0 gs M T K0 K1 x0 x1 post w D d l):∀q,D.vx.ownBlock=some q→n0≤q:=fun q e=> (h.df.x.own.lt q e).1
theorem DefAt.pushx (h:DefAt n0 gs M T K0 K1 x0 x1 post w D d l) {y:Ex} {cs:List Value} {v':Value} (hl:cs.length=8) (ho:w'.ownsRow n0 37 8 v' (d.chk.length+1) (D.cx.flatten++cs)) (hg:w.grownBy w' D.vx.ownBlock)
  (hb:v'.ownBlock=D.vx.ownBlock∨v'.ownBlock=some w.heap.size) (ha:Stb (Sf n0 [gs,M] D) w (Phiex y cs)):
  DefAt n0 gs M T K0 K1 x0 x1 post (w'.setCell ⟨gs,5,none⟩ v') { D with vx:=v',cx:=D.cx++ [cs] } { d with chk:=d.chk++ [y] } l:=by
 have h1:=h.df.pushx hl ho hg hb h.bs ha
 have hs:=set_grown w' gs 5 v'
 refine⟨h.hgs,h.hM,h.ne,Nat.le_trans h.n (Nat.le_trans (World.grownBy.size hg) (World.grownBy.size hs)),(h.blk.grown hg h.nex.1).set 5 v',(h.map.kept hg h.nex.2).kept hs (fun e=>h.ne (Option.some.inj e).symm),h1.turn hs (fun q e=> .inr (by rw[←Option.some.inj e];simp)) fun q hq=> .inl hq⟩
end
theorem own_slice {w:World} {B e sz n:Nat} {v:Value} {xs:List Value} (h:w.ownsRow B e sz v n xs):∃A c,v= .slice A n c:=by
 rcases h.2 with ⟨rfl,rfl⟩|⟨g,cap,cur,rfl,_⟩
 ·exact⟨_,_,rfl⟩
 ·exact⟨_,_,rfl⟩
theorem DefAt.start {n0 gs M:Nat} {T:TypeId} {x0 x1:Value} {post:List Value} {w:World} {K0 K1:TypeId} (h1:n0≤gs) (h2:n0≤M) (h3:gs≠M) (h4:n0≤w.heap.size) (hb:Blk w gs T (x0::x1:: .slice none 0 0:: .slice none 0 0:: .slice none 0 0:: .slice none 0 0::post)) (hm:StrMap w Tryz.prog K0 K1 M 0 []):
  DefAt n0 gs M T K0 K1 x0 x1 post w dv0 ⟨[],[],[],[]⟩ []:=⟨h1,h2,h3,h4,hb,hm,Dfw.start _ _ _⟩
theorem RowT.last {α:Type} {Φ:α→List Value→World→Prop} {T sz n0:Nat} {S S':Nat→Prop} {w w':World} {v:Value} {l:List α} {css:List (List Value)} {x y:α} {cs ds:List Value}
  (h:RowT Φ T sz n0 S w v (l++ [x]) (css++ [cs])) (hl:ds.length=sz) (ho:w'.ownsRow n0 T sz v (l.length+1) (css.flatten++ds)) (hg:w.grownBy w' v.ownBlock) (hS:∀q,q<w.heap.size→S q→v.ownBlock≠some q∧S' q) (ha:Stb S w (Φ y ds)):
  RowT Φ T sz n0 S' w' v (l++ [y]) (css++ [ds]):=by
 have hlen:css.length=l.length:=by have:=h.len;simpa using this
 refine⟨by simp[hlen],fun z hz=>?_,by simpa using ho,fun i b es hi hes=>?_⟩
 ·rcases List.mem_append.1 hz with hz|hz
  ·exact h.each z (List.mem_append_left _ hz)
  ·rw[List.mem_singleton.1 hz];exact hl
 ·by_cases hi2:i<l.length
  ·rw[List.getElem?_append_left hi2]at hi
   rw[List.getElem?_append_left (by omega)]at hes
   exact(h.at_ i b es (by rw[List.getElem?_append_left hi2];exact hi) (by rw[List.getElem?_append_left (by omega)];exact hes)).turn hg hS
  ·have h1:=(List.getElem?_eq_some_iff.1 hi).1
   rw[List.length_append,List.length_singleton]at h1
   obtain rfl:i=l.length:=by omega
   rw[List.getElem?_append_right (Nat.le_refl _),Nat.sub_self]at hi
   rw[←hlen,List.getElem?_append_right (Nat.le_refl _),Nat.sub_self]at hes
   simp at hi hes
   subst hi hes
   exact ha.turn hg hS
theorem nOwn_cell {w:World} {B T sz n c g:Nat} {xs:List Value} (h:w.ownsRow B T sz (.slice (some ⟨g,0,none⟩) n c) n xs) {j:Nat} {v:Value} (hj:xs[j]? =some v):w.cell? ⟨g,j,none⟩=some v:=by
 rcases h.2 with ⟨h2,_⟩|⟨g2,cap,cur,hv,hg,hh,hn,hc,hs,ht⟩
 ·cases h2
 ·simp only[Value.slice.injEq,Option.some.injEq,Addr.mk.injEq,and_true,true_and]at hv
  obtain⟨rfl,rfl⟩:=hv
  rw[←ht,List.getElem?_take]at hj
  split at hj
  ·simp[World.cell?,hh]
   simpa using hj
  ·cases hj
theorem nOwn_sts {B T sz n c g:Nat} :∀(vs:List Value) (w:World) (pre old:List Value),old.length=vs.length→w.ownsRow B T sz (.slice (some ⟨g,0,none⟩) n c) n (pre++old)→(sts w g pre.length vs).ownsRow B T sz (.slice (some ⟨g,0,none⟩) n c) n (pre++vs):=by
 intro vs
 induction vs with
 |nil=>
  intro w pre old hl h
  rw[List.eq_nil_of_length_eq_zero hl]at h
  exact h
 |cons v vs ih=>
  intro w pre old hl h
  cases old with
  |nil=>simp at hl
  |cons o old=>
   have h1:=nOwn_set h (j:=pre.length) (by simp) v
   rw[List.set_append_right _ _ (Nat.le_refl _),Nat.sub_self,List.set_cons_zero]at h1
   have h2:=ih (w.setCell ⟨g,pre.length,none⟩ v) (pre++ [v]) old (by simpa using hl) (by simpa using h1)
   rw[sts]
   simpa using h2
theorem own_some {w:World} {B e sz n:Nat} {v:Value} {xs:List Value} (h:w.ownsRow B e sz v (n+1) xs):∃g c,v= .slice (some ⟨g,0,none⟩) (n+1) c:=by
 rcases h.2 with ⟨_,h2⟩|⟨g,cap,cur,rfl,_⟩
 ·omega
 ·exact⟨_,_,rfl⟩
def z8:List Value:=eZ
structure DefQ (n0 gs M:Nat) (T K0 K1:TypeId) (x0 x1:Value) (post:List Value) (w:World) (D:DV) (u:Value) (cs:List Value) (e:Ex) (d:Df) (l:List ByteArray):Prop where
 hgs:n0≤gs
 hM:n0≤M
 ne:gs≠M
 n:n0≤w.heap.size
 blk:Blk w gs T (x0::x1::D.vc::D.vk::D.vf::D.vx::post)
 map:StrMap w Tryz.prog K0 K1 M l.length l
 df:Dfw n0 [gs,M] w { D with vx:=u,cx:=D.cx++ [cs] } { d with chk:=d.chk++ [e] }
section
variable {n0 gs M P:Nat} {T K0 K1:TypeId} {x0 x1 u:Value} {post cs:List Value} {w w':World} {D:DV} {e:Ex} {d:Df} {l:List ByteArray}
theorem DefQ.chg (h:DefQ n0 gs M T K0 K1 x0 x1 post w D u cs e d l) (hc:Chg P w w') (hP:P<n0):DefQ n0 gs M T K0 K1 x0 x1 post w' D u cs e d l:=
 ⟨h.hgs,h.hM,h.ne,Nat.le_trans h.n hc.size,hc.blk h.blk (by have:=h.hgs;omega),h.map.kept hc (fun e=>by have:=Option.some.inj e;have:=h.hM;omega),h.df.chg hc hP⟩
theorem DefQ.bs (h:DefQ n0 gs M T K0 K1 x0 x1 post w D u cs e d l):∀q∈[gs,M],q<w.heap.size:=fun q hq=>by
 simp only[List.mem_cons,List.not_mem_nil,or_false]at hq
 rcases hq with rfl|rfl
 ·exact h.blk.lt
 ·exact h.map.lt
theorem DefQ.fin {g c:Nat} {ds:List Value} {y:Ex} (h:DefQ n0 gs M T K0 K1 x0 x1 post w D (.slice (some ⟨g,0,none⟩) (d.chk.length+1) c) z8 exZ d l) (hl:ds.length=8)
  (ha:Stb (Sf n0 [gs,M] { D with vx:= .slice (some ⟨g,0,none⟩) (d.chk.length+1) c,cx:=D.cx++ [z8] }) w (Phiex y ds)):
  DefAt n0 gs M T K0 K1 x0 x1 post ((sts w g D.cx.flatten.length ds).setCell ⟨gs,5,none⟩ (.slice (some ⟨g,0,none⟩) (d.chk.length+1) c)) { D with vx:= .slice (some ⟨g,0,none⟩) (d.chk.length+1) c,cx:=D.cx++ [ds] } { d with chk:=d.chk++ [y] } l∧
  n0≤g∧w.grownBy (sts w g D.cx.flatten.length ds) (some g)∧gs≠g:=by
 have hob:(Value.slice (some ⟨g,0,none⟩) (d.chk.length+1) c).ownBlock=some g:=rfl
 have how:=h.df.x.own
 have hlen:D.cx.length=d.chk.length:=by have:=h.df.x.len;simpa using this
 simp only[List.length_append,List.length_singleton,List.flatten_append,List.flatten_cons,List.flatten_nil,List.append_nil]at how
 have ho:=nOwn_sts ds w D.cx.flatten z8 (by rw[hl];rfl) how
 have hg:=sts_grown g ds w D.cx.flatten.length
 have hge:n0≤g:=(h.df.x.own.lt g hob).1
 have hgb:g∉ [gs,M]:=h.df.dx g hob
 simp only[List.mem_cons,List.not_mem_nil,or_false,not_or]at hgb
 have hc:∀q,D.vc.ownBlock=some q→q≠g:=fun q hq e=> (h.df.dc q hq).2.2.1 (by rw[e];rfl)
 have hk:∀q,D.vk.ownBlock=some q→q≠g:=fun q hq e=> (h.df.dk q hq).2.1 (by rw[e];rfl)
 have hf:∀q,D.vf.ownBlock=some q→q≠g:=fun q hq e=> (h.df.df q hq).1 (by rw[e];rfl)
 have no:∀ {v:Value},(∀q,v.ownBlock=some q→q≠g)→v.ownBlock=none∨v.ownBlock≠some g:=fun {v} hv=>by
  cases hvb:v.ownBlock with
  |none=>exact .inl rfl
  |some q=>exact .inr fun e=>hv q hvb (Option.some.inj e)
 have hS:∀q,q<w.heap.size→Sf n0 [gs,M] { D with vx:= .slice (some ⟨g,0,none⟩) (d.chk.length+1) c,cx:=D.cx++ [z8] } q→some g≠some q∧Sf n0 [gs,M] { D with vx:= .slice (some ⟨g,0,none⟩) (d.chk.length+1) c,cx:=D.cx++ [ds] } q:=fun q hq hs=>
  ⟨fun e=>hs.x (by rw[hob,e]),hs.ge,hs.c,hs.k,hs.f,hs.x,hs.b⟩
 have h1:Dfw n0 [gs,M] (sts w g D.cx.flatten.length ds) { D with vx:= .slice (some ⟨g,0,none⟩) (d.chk.length+1) c,cx:=D.cx++ [ds] } { d with chk:=d.chk++ [y] } :=
  ⟨h.df.c.turn hg (no hc) hS,h.df.k.turn hg (no hk) hS,h.df.f.turn hg (no hf) hS,h.df.x.last hl ho hg (fun q hq hs=>by rw[hob];exact hS q hq hs) ha,h.df.dc,h.df.dk,h.df.df,h.df.dx⟩
 have hs:=set_grown (sts w g D.cx.flatten.length ds) gs 5 (.slice (some ⟨g,0,none⟩) (d.chk.length+1) c)
 refine⟨⟨h.hgs,h.hM,h.ne,Nat.le_trans h.n (Nat.le_trans (World.grownBy.size hg) (World.grownBy.size hs)),(h.blk.grown hg (fun e=>hgb.1 (Option.some.inj e).symm)).set 5 _,(h.map.kept hg (fun e=>hgb.2 (Option.some.inj e).symm)).kept hs (fun e=>h.ne (Option.some.inj e).symm),h1.turn hs (fun q e=> .inr (by rw[←Option.some.inj e];simp)) fun q hq=> .inl hq⟩,hge,hg,fun e=>hgb.1 e.symm⟩
theorem DefQ.cells {g c:Nat} (h:DefQ n0 gs M T K0 K1 x0 x1 post w D (.slice (some ⟨g,0,none⟩) (d.chk.length+1) c) z8 exZ d l):D.cx.flatten.length=d.chk.length*8∧(∀(j:Nat) (v:Value),z8[j]? =some v→w.cell? ⟨g,d.chk.length*8+j,none⟩=some v)∧(∀j,w.frozen? ⟨g,j,none⟩=false)∧gs≠g:=by
 have how:=h.df.x.own
 simp only[List.length_append,List.length_singleton,List.flatten_append,List.flatten_cons,List.flatten_nil,List.append_nil]at how
 have hl:=how.1
 rw[List.length_append]at hl
 have h8:z8.length=8:=rfl
 have hlen:D.cx.flatten.length=d.chk.length*8:=by omega
 have hgb:g∉ [gs,M]:=h.df.dx g rfl
 simp only[List.mem_cons,List.not_mem_nil,or_false,not_or]at hgb
 refine⟨hlen,fun j v hv=>nOwn_cell how (by rw[List.getElem?_append_right (by omega),hlen,Nat.add_sub_cancel_left];exact hv),fun j=>nOwn_frozen how j,fun e=>hgb.1 e.symm⟩
end
end
section
open Lx (Tk)
theorem row_grown (w:World) (g:Nat) (cs:Array Value):w.grownBy (w.setRow g cs) (some g):=
 ⟨rfl,rfl,rfl,by simp[World.setRow],fun i _ hi=>by
  unfold World.setRow
  simp only
  rw[Array.getElem?_modify,if_neg (fun e=>hi (by rw[e]))]⟩
theorem row_blk {w:World} {g T:Nat} {old:List Value} (h:Blk w g T old) (cs:List Value):Blk (w.setRow g cs.toArray) g T cs:=by
 unfold Blk at h ⊢
 unfold World.setRow
 simp only
 rw[Array.getElem?_modify,if_pos rfl,h]
 rfl
def StW (w:World) (s:St) (a:SA):Prop:=StV w s a∧CapK w a.keys.A a.keys.n∧CapR w a.frs.A a.frs.n
def ElSt (n:Nat) (W:World) (s:St) (v:Value):Prop:=∃a,v=s.val a∧Stb (n≤·) W (fun w'=>StW w' s a)
theorem StW.of {w:World} {s:St} {a:SA} (h:StV w s a) (h1:a.keys.n=0) (h2:a.frs.n=0):StW w s a:=⟨h,fun i hi=>by omega,fun i hi=>by omega⟩
theorem flat_set {sz:Nat} :∀(css:List (List Value)),(∀cs∈css,cs.length=sz)→∀(i j:Nat) (cs:List Value) (u:Value),css[i]? =some cs→j<sz→css.flatten.set (i*sz+j) u=(css.set i (cs.set j u)).flatten
 | [],_,i,j,cs,u,h,_=>by simp at h
 |x::css,he,i,j,cs,u,h,hj=>by
  have hx:=he x (List.mem_cons_self ..)
  rw[List.flatten_cons]
  cases i with
  |zero=>
   simp at h
   subst h
   rw[List.set_append_left _ _ (by omega),List.set_cons_zero,List.flatten_cons]
   simp
  |succ i=>
   rw[List.set_append_right _ _ (by rw[hx,Nat.succ_mul];omega),hx,show(i+1)*sz+j-sz=i*sz+j by rw[Nat.succ_mul];omega,List.set_cons_succ,List.flatten_cons]
   rw[flat_set css (fun c hc=>he c (List.mem_cons_of_mem _ hc)) i j cs u (by simpa using h) hj]
theorem DefAt.nn {n0 gs M:Nat} {T K0 K1:TypeId} {x0 x1:Value} {post:List Value} {w:World} {D:DV} {d:Df} {l:List ByteArray} (h:DefAt n0 gs M T K0 K1 x0 x1 post w D d l) {g c:Nat} (hv:D.vc= .slice (some ⟨g,0,none⟩) d.cols.length c) {i:Nat} {y:Cd} (hy:d.cols[i]? =some y) (b:Bool):
  DefAt n0 gs M T K0 K1 x0 x1 post (w.setCell ⟨g,i*6+5,none⟩ (.bool b)) { D with cc:=D.cc.set i [.string y.nm,.int .i64 y.ty,.int .i64 y.lo,.int .i64 y.hi,.int .i64 y.mx,.bool b] } { d with cols:=d.cols.set i { y with nn:=b } } l∧
  n0≤g∧gs≠g∧(∀(j:Nat) (v:Value),[Value.string y.nm,.int .i64 y.ty,.int .i64 y.lo,.int .i64 y.hi,.int .i64 y.mx,.bool y.nn][j]? =some v→w.cell? ⟨g,i*6+j,none⟩=some v)∧∀j,w.frozen? ⟨g,j,none⟩=false:=by
 have hob:D.vc.ownBlock=some g:=by rw[hv];rfl
 have hge:n0≤g:=h.gec g hob
 have hgb:=(h.df.dc g hob).2.2.2
 simp only[List.mem_cons,List.not_mem_nil,or_false,not_or]at hgb
 have hi:i<d.cols.length:=(List.getElem?_eq_some_iff.1 hy).1
 have hil:i<D.cc.length:=by rw[h.df.c.len];exact hi
 obtain⟨cs,hcs⟩:∃cs,D.cc[i]? =some cs:=⟨_,List.getElem?_eq_getElem hil⟩
 have hphi:=((h.df.c.at_ i y cs hy hcs).now)
 obtain⟨hc0,hsz⟩:=hphi
 subst hc0
 have how:=h.df.c.own
 rw[hv]at how
 have hfl:=flat_set D.cc h.df.c.each i 5 _ (.bool b) hcs (by omega)
 have hidx:i*6+5<D.cc.flatten.length:=by have:=how.1;omega
 have ho2:=nOwn_set how hidx (.bool b)
 rw[hfl]at ho2
 have hg:=set_grown w g (i*6+5) (.bool b)
 have hk:∀q,D.vk.ownBlock=some q→q≠g:=fun q hq e=> (h.df.dc g hob).1 (by rw[←e];exact hq)
 have hf:∀q,D.vf.ownBlock=some q→q≠g:=fun q hq e=> (h.df.dc g hob).2.1 (by rw[←e];exact hq)
 have hx:∀q,D.vx.ownBlock=some q→q≠g:=fun q hq e=> (h.df.dc g hob).2.2.1 (by rw[←e];exact hq)
 have no:∀ {v:Value},(∀q,v.ownBlock=some q→q≠g)→v.ownBlock=none∨v.ownBlock≠some g:=fun {v} hv=>by
  cases hvb:v.ownBlock with
  |none=>exact .inl rfl
  |some q=>exact .inr fun e=>hv q hvb (Option.some.inj e)
 have hS:∀q,q<w.heap.size→Sf n0 [gs,M] D q→some g≠some q∧Sf n0 [gs,M] { D with cc:=D.cc.set i [.string y.nm,.int .i64 y.ty,.int .i64 y.lo,.int .i64 y.hi,.int .i64 y.mx,.bool b] } q:=fun q hq hs=>
  ⟨fun e=>hs.c (by rw[hob,e]),hs.ge,hs.c,hs.k,hs.f,hs.x,hs.b⟩
 have hrow:RowT Phicol 99 6 n0 (Sf n0 [gs,M] { D with cc:=D.cc.set i [.string y.nm,.int .i64 y.ty,.int .i64 y.lo,.int .i64 y.hi,.int .i64 y.mx,.bool b] }) (w.setCell ⟨g,i*6+5,none⟩ (.bool b)) D.vc (d.cols.set i { y with nn:=b }) (D.cc.set i [.string y.nm,.int .i64 y.ty,.int .i64 y.lo,.int .i64 y.hi,.int .i64 y.mx,.bool b]):=by
  refine⟨by rw[List.length_set,List.length_set];exact h.df.c.len,fun z hz=>?_,by rw[List.length_set,hv];exact ho2,fun j z zs hz hzs=>?_⟩
  ·rcases List.mem_or_eq_of_mem_set hz with hz|rfl
   ·exact h.df.c.each z hz
   ·rfl
  ·by_cases hij:i=j
   ·subst hij
    rw[List.getElem?_set_self hi]at hz
    rw[List.getElem?_set_self hil]at hzs
    cases hz
    cases hzs
    exact fun _ _ _=>⟨rfl,hsz⟩
   ·rw[List.getElem?_set_ne hij]at hz
    rw[List.getElem?_set_ne hij]at hzs
    exact(h.df.c.at_ j z zs hz hzs).turn hg hS
 refine⟨⟨h.hgs,h.hM,h.ne,Nat.le_trans h.n (World.grownBy.size hg),h.blk.grown hg (fun e=>hgb.1 (Option.some.inj e).symm),h.map.kept hg (fun e=>hgb.2 (Option.some.inj e).symm),⟨hrow,h.df.k.turn hg (no hk) hS,h.df.f.turn hg (no hf) hS,h.df.x.turn hg (no hx) hS,h.df.dc,h.df.dk,h.df.df,h.df.dx⟩⟩,hge,fun e=>hgb.1 e.symm,fun j v hj=>?_,fun j=>nOwn_frozen how j⟩
 exact nOwn_cell how (flat_get D.cc h.df.c.each i j _ v hcs hj)
theorem blk_mid {w:World} {g T:Nat} {pre old vs post:List Value} (h:Blk w g T (pre++old++post)) (hl:old.length=vs.length):Blk (sts w g pre.length vs) g T (pre++vs++post):=by
 have key:∀(vs:List Value) (w:World) (pre old:List Value),old.length=vs.length→Blk w g T (pre++old++post)→Blk (sts w g pre.length vs) g T (pre++vs++post):=by
  intro vs
  induction vs with
  |nil=>
   intro w pre old hl h
   rw[List.eq_nil_of_length_eq_zero hl]at h
   exact h
  |cons v vs ih=>
   intro w pre old hl h
   cases old with
   |nil=>simp at hl
   |cons o old=>
    have h1:=h.set pre.length v
    rw[List.append_assoc,List.set_append_right _ _ (Nat.le_refl _),Nat.sub_self,List.cons_append,List.set_cons_zero]at h1
    have h2:=ih (w.setCell ⟨g,pre.length,none⟩ v) (pre++ [v]) old (by simpa using hl) (by simpa using h1)
    rw[sts]
    simpa using h2
 exact key vs w pre old hl h
theorem exZ_at (w:World):ExV w exZ none 0 0:=⟨rfl,by omega,fit_op (o:=0) i64_0,by unfold KidsAt Ex.ks;trivial⟩
end
end Go.Proofs.YtjigcpfjhfoheaaGreatDoor
