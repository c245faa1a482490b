/- Walks over the lexer's reference: one token: numbers, texts, symbols; Walks over the lexer's reference: Tokens. -/
import Derived.Test.YtjigcpfjhfoheaaGreatDoorEad
namespace Go.Proofs.YtjigcpfjhfoheaaGreatDoor
open Go.RowKit
set_option maxHeartbeats 4000000
set_option maxRecDepth 100000
set_option linter.unusedVariables false
set_option linter.unusedSimpArgs false
namespace Lx
theorem next_digit (s:ByteArray) (a:Nat) (w:World) (hs:s.size≤20000) (ha:a<s.size) (hl:isLetter s[a]=false) (hd:isDigit s[a]=true):Calls Tryz.prog 95 #[.string s,.int .i64 a] w fun e w'=>e= .returned (RRes a (tokL (s.data.toList.drop a)))∧Ext w w':=by
 have HT:Hid (tokL (s.data.toList.drop a)=numL (s.data.toList.drop a)):=by
  unfold Hid
  rw[drop1 s a ha,tokL,if_neg (by rw[hl];decide),if_pos hd]
 have HL:=hid (fun W=>rletter_any s[a] W)
 rw[hl]at HL
 have HD0:=hid (fun W=>rdigit_any s[a] W)
 rw[hd]at HD0
 have hle:spanN isDigit (s.data.toList.drop a)≤(s.data.toList.drop a).length:=span_le isDigit _
 rw[List.length_drop,lst_len]at hle
 have hpos:1≤spanN isDigit (s.data.toList.drop a):=by rw[drop1 s a ha];exact span_pos isDigit _ _ hd
 have HDG:=hid (span_all isDigit (s.data.toList.drop a))
 have HNH:=hid (span_head isDigit (s.data.toList.drop a))
 have HW:Hid (numL (s.data.toList.drop a)=if (1<spanN isDigit (s.data.toList.drop a)∧(s.data.toList.drop a).head? =some 48)∨headW ((s.data.toList.drop a).drop (spanN isDigit (s.data.toList.drop a)))=true then .bad 2
   else if 2147483648<digVal ((s.data.toList.drop a).take (spanN isDigit (s.data.toList.drop a)))then .bad 3
   else .tok 3 ((s.data.toList.drop a).take (spanN isDigit (s.data.toList.drop a))) (spanN isDigit (s.data.toList.drop a))):=rfl
 have HH:Hid ((s.data.toList.drop a).head? =some s[a]):=by unfold Hid;rw[drop1 s a ha];rfl
 obtain⟨n,hn⟩:∃n,spanN isDigit (s.data.toList.drop a)=n:=⟨_,rfl⟩
 have HSP:=hid hn
 rw[hn]at HW hle HDG HNH hpos
 clear hn
 obtain⟨E,hE⟩:∃E,a+n=E:=⟨_,rfl⟩
 have HEn:=hid hE
 have hEa:a+1≤E:=by omega
 have hEs:E≤s.size:=by omega
 have hna:E-a=n:=by omega
 have HNA:=hid hna
 rw[List.drop_drop,hE]at HW HNH
 have HWE:=hid (headW_at s E)
 have HPL:Hid ((s.extract a E).data.toList=(s.data.toList.drop a).take n):=by unfold Hid;rw[piece_list,hna]
 have HLN:Hid (((s.data.toList.drop a).take n).length=E-a):=by unfold Hid;rw[List.length_take,List.length_drop,lst_len];omega
 have HBIG:=hid (dv_big _ HDG.out)
 have HTEN:=hid (ten_big ((s.data.toList.drop a).take n))
 have HB0:=hid (Blk.of_new w 78 [.int .i64 0,.string ⟨#[]⟩,.int .i64 0])
 have hc0:=HB0.out.cell 0
 have hc1:=HB0.out.cell 1
 have hc2:=HB0.out.cell 2
 obtain⟨hf0,hf1,hf2,-⟩:=frz HB0.out
 clear hle hE hna hl hd
 go_enter Tryz.func95,Tryz.ntmps95
 go_wp2_with (first|(go_at_call 162;refine(HL.out _).mono ?_;rintro e' w1 ⟨rfl,rfl⟩)|(go_at_call 163;refine(HD0.out _).mono ?_;rintro e' w1 ⟨rfl,rfl⟩))
 go_loop [7] (fun i=> ∃k:Nat,a≤k∧k≤s.size∧i= .int .i64 k∧E=k+spanN isDigit (s.data.toList.drop k)) (fun i=>s.size- (intOf i).toNat)
 case atStart=>exact⟨a,Nat.le_refl _,Nat.le_of_lt ha,rfl,by rw[HSP.out];exact HEn.out.symm⟩
 case round=>
  obtain⟨k,hak,hk,rfl,hv⟩:=hrel
  have HVx:=hid hv
  clear hv
  by_cases hlt:k<s.size
  ·have HD:=hid (drop1 s k hlt)
   have HLk:=hid (fun W=>rletter_any s[k] W)
   have HDk:=hid (fun W=>rdigit_any s[k] W)
   have HWP:=hid (word_parts s[k])
   cases h2:isDigit s[k]
   ·rw[h2]at HDk HWP
    have HV:Hid (E=k):=by
     unfold Hid
     rw[HVx.out,HD.out,spanN,if_neg (by rw[h2];decide)]
     omega
    clear h2
    obtain rfl:k=E:=HV.out.symm
    by_cases hz:1<k-a∧s[a].toNat=48
    ·have HE:Hid (tokL (s.data.toList.drop a)= .bad 2):=by unfold Hid;rw[HT.out,HW.out,if_pos (.inl ⟨by rw[←HNA.out];exact hz.1,by rw[HH.out,num_ext s[a] 48 hz.2]⟩)]
     have b1:((s[a].toNat:Int)==48)=true:=by rw[hz.2];rfl
     obtain⟨hz1,_⟩:=hz
     go_wp2_with (first|(go_at_call 163;refine(HDk.out _).mono ?_;rintro e' w1 ⟨rfl,rfl⟩)|(go_at_call 162;refine(HLk.out _).mono ?_;rintro e' w1 ⟨rfl,rfl⟩))
     exact bodyPost_ret (v:= .tuple #[.agg #[.int .i64 0,.string ⟨#[]⟩,.int .i64 0],.int .i64 0,.int .i64 (2)]) (by simp[results,Tryz.results95,go_sem,hc0,hc1,hc2]) rfl ⟨by rw[HE.out];rfl,(Ext.refl w).alloc _⟩
    ·have hcase:k-a≤1∨(1<k-a∧((s[a].toNat:Int)==48)=false):=by
      rcases Nat.lt_or_ge 1 (k-a)with h|h
      ·right;exact⟨h,by rw[beq_eq_false_iff_ne];intro e;exact hz ⟨h,by omega⟩⟩
      ·left;omega
     have HZ:Hid (¬(1<n∧(s.data.toList.drop a).head? =some 48)):=by
      unfold Hid
      rw[HH.out,←HNA.out]
      rintro⟨h1,h2⟩
      injection h2 with h2
      exact hz ⟨h1,by rw[h2];rfl⟩
     clear hz
     cases h1:isLetter s[k]
     ·rw[h1]at HLk HWP
      by_cases h3:s[k].toNat=95
      ·have b3:((s[k].toNat:Int)==95)=true:=by rw[h3];rfl
       have HE:Hid (tokL (s.data.toList.drop a)= .bad 2):=by
        unfold Hid
        rw[HT.out,HW.out,if_pos (.inr (by rw[HWE.out,dif_pos hlt,HWP.out,h3];rfl))]
       clear h1 h3
       rcases hcase with h1|⟨h1,b1⟩
       all_goals
        go_wp2_with (first|(go_at_call 163;refine(HDk.out _).mono ?_;rintro e' w1 ⟨rfl,rfl⟩)|(go_at_call 162;refine(HLk.out _).mono ?_;rintro e' w1 ⟨rfl,rfl⟩))
        exact bodyPost_ret (v:= .tuple #[.agg #[.int .i64 0,.string ⟨#[]⟩,.int .i64 0],.int .i64 0,.int .i64 (2)]) (by simp[results,Tryz.results95,go_sem,hc0,hc1,hc2]) rfl ⟨by rw[HE.out];rfl,(Ext.refl w).alloc _⟩
      ·have b3:((s[k].toNat:Int)==95)=false:=by rw[beq_eq_false_iff_ne];omega
       have HF:Hid (headW (s.data.toList.drop k)=false):=by
        unfold Hid
        rw[HWE.out,dif_pos hlt,HWP.out]
        simpa using h3
       clear h1 h3
       have HG:Hid (tokL (s.data.toList.drop a)=if 2147483648<digVal ((s.data.toList.drop a).take n)then .bad 3 else .tok 3 ((s.data.toList.drop a).take n) n):=by
        unfold Hid
        rw[HT.out,HW.out,if_neg]
        rintro(h|h)
        ·exact HZ.out h
        ·rw[HF.out]at h;cases h
       have hbig:=HBIG.out (by
        intro h1 h2
        refine HZ.out ⟨by rw[HLN.out,HNA.out]at h1;exact h1,?_⟩
        rw[HH.out]
        rw[drop1 s a ha]at h2
        have:n=(n-1)+1:=by omega
        rw[this,List.take_succ_cons,List.head?_cons]at h2
        exact h2)
       rw[HLN.out]at hbig
       have HXT:Hid (s.extract a k=⟨((s.data.toList.drop a).take n).toArray⟩):=by_list (by rw[HPL.out])
       by_cases h10:10<k-a
       ·have HE:Hid (tokL (s.data.toList.drop a)= .bad 3):=by unfold Hid;rw[HG.out,if_pos (hbig.2 (.inl h10))]
        clear hbig
        rcases hcase with h1|⟨h1,b1⟩
        ·omega
        ·go_wp2_with (first|(go_at_call 163;refine(HDk.out _).mono ?_;rintro e' w1 ⟨rfl,rfl⟩)|(go_at_call 162;refine(HLk.out _).mono ?_;rintro e' w1 ⟨rfl,rfl⟩))
         exact bodyPost_ret (v:= .tuple #[.agg #[.int .i64 0,.string ⟨#[]⟩,.int .i64 0],.int .i64 0,.int .i64 (3)]) (by simp[results,Tryz.results95,go_sem,hc0,hc1,hc2]) rfl ⟨by rw[HE.out];rfl,(Ext.refl w).alloc _⟩
       ·by_cases he10:k-a=10
        ·cases hb:Op.bytesLess big10 ((s.data.toList.drop a).take n)
         ·have HE:Hid (tokL (s.data.toList.drop a)= .tok 3 ((s.data.toList.drop a).take n) n):=by
           unfold Hid
           rw[HG.out,if_neg]
           intro h
           rcases hbig.1 h with h|⟨_,h⟩
           ·exact h10 h
           ·rw[hb]at h;cases h
          have ht:=(HTEN.out (by rw[HLN.out];exact he10)).2 hb
          have hxl:(s.extract a k).toList=(s.data.toList.drop a).take n:=by rw[ByteArray.toList_eq,HPL.out]
          rw[←hxl]at ht
          clear hbig hb hxl
          have b4:(!(Op.bytesLess (s.extract a k).toList [50,49,52,55,52,56,51,54,52,56]||(s.extract a k).toList== [50,49,52,55,52,56,51,54,52,56]))=false:=by
           rcases ht with h|h
           ·have h':Op.bytesLess (s.extract a k).toList [50,49,52,55,52,56,51,54,52,56]=true:=h
            rw[h'];rfl
           ·have h':((s.extract a k).toList== [50,49,52,55,52,56,51,54,52,56])=true:=h
            rw[h',Bool.or_true];rfl
          have b5:Op.bytesLess (s.extract a k).toList [50,49,52,55,52,56,51,54,52,56]=false→((s.extract a k).toList== [50,49,52,55,52,56,51,54,52,56])=true:=by
           intro h'
           rcases ht with h|h
           ·rw[show big10= [50,49,52,55,52,56,51,54,52,56] from rfl,h']at h;cases h
           ·exact h
          clear ht
          have HF5:=hid b5
          clear b5
          rcases hcase with h1|⟨h1,b1⟩
          ·omega
          ·cases b6:Op.bytesLess (s.extract a k).toList [50,49,52,55,52,56,51,54,52,56]
           ·have b7:=HF5.out b6
            clear b4
            go_wp2_with (first|(go_at_call 163;refine(HDk.out _).mono ?_;rintro e' w1 ⟨rfl,rfl⟩)|(go_at_call 162;refine(HLk.out _).mono ?_;rintro e' w1 ⟨rfl,rfl⟩))
            have HBn:=Blk.of_new w 78 [.int .i64 3,.string (s.extract a k),.int .i64 a]
            have s0:=HBn.cell 0
            have s1:=HBn.cell 1
            have s2:=HBn.cell 2
            exact bodyPost_ret (v:= .tuple #[.agg #[.int .i64 3,.string (s.extract a k),.int .i64 a],.int .i64 (k),.int .i64 (0)]) (by simp[results,Tryz.results95,go_sem,s0,s1,s2]) rfl ⟨by rw[HE.out,rres_tok a _ _ n _ HEn.out,HXT.out];rfl,(Ext.refl w).alloc _⟩
           ·clear b4
            go_wp2_with (first|(go_at_call 163;refine(HDk.out _).mono ?_;rintro e' w1 ⟨rfl,rfl⟩)|(go_at_call 162;refine(HLk.out _).mono ?_;rintro e' w1 ⟨rfl,rfl⟩))
            have HBn:=Blk.of_new w 78 [.int .i64 3,.string (s.extract a k),.int .i64 a]
            have s0:=HBn.cell 0
            have s1:=HBn.cell 1
            have s2:=HBn.cell 2
            exact bodyPost_ret (v:= .tuple #[.agg #[.int .i64 3,.string (s.extract a k),.int .i64 a],.int .i64 (k),.int .i64 (0)]) (by simp[results,Tryz.results95,go_sem,s0,s1,s2]) rfl ⟨by rw[HE.out,rres_tok a _ _ n _ HEn.out,HXT.out];rfl,(Ext.refl w).alloc _⟩
         ·have HE:Hid (tokL (s.data.toList.drop a)= .bad 3):=by unfold Hid;rw[HG.out,if_pos (hbig.2 (.inr ⟨he10,hb⟩))]
          obtain⟨ht1,ht2⟩:=(HTEN.out (by rw[HLN.out];exact he10)).1 hb
          have hxl:(s.extract a k).toList=(s.data.toList.drop a).take n:=by rw[ByteArray.toList_eq,HPL.out]
          rw[←hxl]at ht1 ht2
          have b6:Op.bytesLess (s.extract a k).toList [50,49,52,55,52,56,51,54,52,56]=false:=ht1
          have b7:((s.extract a k).toList== [50,49,52,55,52,56,51,54,52,56])=false:=ht2
          clear hbig hb hxl ht1 ht2
          rcases hcase with h1|⟨h1,b1⟩
          ·omega
          ·go_wp2_with (first|(go_at_call 163;refine(HDk.out _).mono ?_;rintro e' w1 ⟨rfl,rfl⟩)|(go_at_call 162;refine(HLk.out _).mono ?_;rintro e' w1 ⟨rfl,rfl⟩))
           exact bodyPost_ret (v:= .tuple #[.agg #[.int .i64 0,.string ⟨#[]⟩,.int .i64 0],.int .i64 0,.int .i64 (3)]) (by simp[results,Tryz.results95,go_sem,hc0,hc1,hc2]) rfl ⟨by rw[HE.out];rfl,(Ext.refl w).alloc _⟩
        ·have HE:Hid (tokL (s.data.toList.drop a)= .tok 3 ((s.data.toList.drop a).take n) n):=by
          unfold Hid
          rw[HG.out,if_neg]
          intro h
          rcases hbig.1 h with h|⟨h,_⟩
          ·exact h10 h
          ·exact he10 h
         clear hbig
         rcases hcase with h1|⟨h1,b1⟩
         all_goals
          go_wp2_with (first|(go_at_call 163;refine(HDk.out _).mono ?_;rintro e' w1 ⟨rfl,rfl⟩)|(go_at_call 162;refine(HLk.out _).mono ?_;rintro e' w1 ⟨rfl,rfl⟩))
          have HBn:=Blk.of_new w 78 [.int .i64 3,.string (s.extract a k),.int .i64 a]
          have s0:=HBn.cell 0
          have s1:=HBn.cell 1
          have s2:=HBn.cell 2
          exact bodyPost_ret (v:= .tuple #[.agg #[.int .i64 3,.string (s.extract a k),.int .i64 a],.int .i64 (k),.int .i64 (0)]) (by simp[results,Tryz.results95,go_sem,s0,s1,s2]) rfl ⟨by rw[HE.out,rres_tok a _ _ n _ HEn.out,HXT.out];rfl,(Ext.refl w).alloc _⟩
     ·rw[h1]at HLk HWP
      have HE:Hid (tokL (s.data.toList.drop a)= .bad 2):=by
       unfold Hid
       rw[HT.out,HW.out,if_pos (.inr (by rw[HWE.out,dif_pos hlt,HWP.out];rfl))]
      clear h1
      rcases hcase with h1|⟨h1,b1⟩
      all_goals
       go_wp2_with (first|(go_at_call 163;refine(HDk.out _).mono ?_;rintro e' w1 ⟨rfl,rfl⟩)|(go_at_call 162;refine(HLk.out _).mono ?_;rintro e' w1 ⟨rfl,rfl⟩))
       exact bodyPost_ret (v:= .tuple #[.agg #[.int .i64 0,.string ⟨#[]⟩,.int .i64 0],.int .i64 0,.int .i64 (2)]) (by simp[results,Tryz.results95,go_sem,hc0,hc1,hc2]) rfl ⟨by rw[HE.out];rfl,(Ext.refl w).alloc _⟩
   ·rw[h2]at HDk HWP
    have HV:Hid (E=k+1+spanN isDigit (s.data.toList.drop (k+1))):=by
     unfold Hid
     rw[HVx.out,HD.out,spanN,if_pos h2]
     omega
    clear h2
    go_wp2_with (first|(go_at_call 163;refine(HDk.out _).mono ?_;rintro e' w1 ⟨rfl,rfl⟩)|(go_at_call 162;refine(HLk.out _).mono ?_;rintro e' w1 ⟨rfl,rfl⟩))
    go_round
    case rel=>exact⟨k+1,by omega,by omega,by go_num,HV.out⟩
    case measure=>simp[intOf];omega
  ·have HV:Hid (E=k):=by
    unfold Hid
    rw[HVx.out,List.drop_of_length_le (by rw[lst_len];omega),spanN]
    omega
   obtain rfl:k=E:=HV.out.symm
   by_cases hz:1<k-a∧s[a].toNat=48
   ·have HE:Hid (tokL (s.data.toList.drop a)= .bad 2):=by unfold Hid;rw[HT.out,HW.out,if_pos (.inl ⟨by rw[←HNA.out];exact hz.1,by rw[HH.out,num_ext s[a] 48 hz.2]⟩)]
    have b1:((s[a].toNat:Int)==48)=true:=by rw[hz.2];rfl
    obtain⟨hz1,_⟩:=hz
    go_wp2_with fail
    exact bodyPost_ret (v:= .tuple #[.agg #[.int .i64 0,.string ⟨#[]⟩,.int .i64 0],.int .i64 0,.int .i64 (2)]) (by simp[results,Tryz.results95,go_sem,hc0,hc1,hc2]) rfl ⟨by rw[HE.out];rfl,(Ext.refl w).alloc _⟩
   ·have hcase:k-a≤1∨(1<k-a∧((s[a].toNat:Int)==48)=false):=by
     rcases Nat.lt_or_ge 1 (k-a)with h|h
     ·right;exact⟨h,by rw[beq_eq_false_iff_ne];intro e;exact hz ⟨h,by omega⟩⟩
     ·left;omega
    have HZ:Hid (¬(1<n∧(s.data.toList.drop a).head? =some 48)):=by
     unfold Hid
     rw[HH.out,←HNA.out]
     rintro⟨h1,h2⟩
     injection h2 with h2
     exact hz ⟨h1,by rw[h2];rfl⟩
    clear hz
    have HF:Hid (headW (s.data.toList.drop k)=false):=by
     unfold Hid
     rw[HWE.out,dif_neg hlt]
    have HG:Hid (tokL (s.data.toList.drop a)=if 2147483648<digVal ((s.data.toList.drop a).take n)then .bad 3 else .tok 3 ((s.data.toList.drop a).take n) n):=by
     unfold Hid
     rw[HT.out,HW.out,if_neg]
     rintro(h|h)
     ·exact HZ.out h
     ·rw[HF.out]at h;cases h
    have hbig:=HBIG.out (by
     intro h1 h2
     refine HZ.out ⟨by rw[HLN.out,HNA.out]at h1;exact h1,?_⟩
     rw[HH.out]
     rw[drop1 s a ha]at h2
     have:n=(n-1)+1:=by omega
     rw[this,List.take_succ_cons,List.head?_cons]at h2
     exact h2)
    rw[HLN.out]at hbig
    have HXT:Hid (s.extract a k=⟨((s.data.toList.drop a).take n).toArray⟩):=by_list (by rw[HPL.out])
    by_cases h10:10<k-a
    ·have HE:Hid (tokL (s.data.toList.drop a)= .bad 3):=by unfold Hid;rw[HG.out,if_pos (hbig.2 (.inl h10))]
     clear hbig
     rcases hcase with h1|⟨h1,b1⟩
     ·omega
     ·go_wp2_with fail
      exact bodyPost_ret (v:= .tuple #[.agg #[.int .i64 0,.string ⟨#[]⟩,.int .i64 0],.int .i64 0,.int .i64 (3)]) (by simp[results,Tryz.results95,go_sem,hc0,hc1,hc2]) rfl ⟨by rw[HE.out];rfl,(Ext.refl w).alloc _⟩
    ·by_cases he10:k-a=10
     ·cases hb:Op.bytesLess big10 ((s.data.toList.drop a).take n)
      ·have HE:Hid (tokL (s.data.toList.drop a)= .tok 3 ((s.data.toList.drop a).take n) n):=by
        unfold Hid
        rw[HG.out,if_neg]
        intro h
        rcases hbig.1 h with h|⟨_,h⟩
        ·exact h10 h
        ·rw[hb]at h;cases h
       have ht:=(HTEN.out (by rw[HLN.out];exact he10)).2 hb
       have hxl:(s.extract a k).toList=(s.data.toList.drop a).take n:=by rw[ByteArray.toList_eq,HPL.out]
       rw[←hxl]at ht
       clear hbig hb hxl
       have b4:(!(Op.bytesLess (s.extract a k).toList [50,49,52,55,52,56,51,54,52,56]||(s.extract a k).toList== [50,49,52,55,52,56,51,54,52,56]))=false:=by
        rcases ht with h|h
        ·have h':Op.bytesLess (s.extract a k).toList [50,49,52,55,52,56,51,54,52,56]=true:=h
         rw[h'];rfl
        ·have h':((s.extract a k).toList== [50,49,52,55,52,56,51,54,52,56])=true:=h
         rw[h',Bool.or_true];rfl
       have b5:Op.bytesLess (s.extract a k).toList [50,49,52,55,52,56,51,54,52,56]=false→((s.extract a k).toList== [50,49,52,55,52,56,51,54,52,56])=true:=by
        intro h'
        rcases ht with h|h
        ·rw[show big10= [50,49,52,55,52,56,51,54,52,56] from rfl,h']at h;cases h
        ·exact h
       clear ht
       have HF5:=hid b5
       clear b5
       rcases hcase with h1|⟨h1,b1⟩
       ·omega
       ·cases b6:Op.bytesLess (s.extract a k).toList [50,49,52,55,52,56,51,54,52,56]
        ·have b7:=HF5.out b6
         clear b4
         go_wp2_with fail
         have HBn:=Blk.of_new w 78 [.int .i64 3,.string (s.extract a k),.int .i64 a]
         have s0:=HBn.cell 0
         have s1:=HBn.cell 1
         have s2:=HBn.cell 2
         exact bodyPost_ret (v:= .tuple #[.agg #[.int .i64 3,.string (s.extract a k),.int .i64 a],.int .i64 (k),.int .i64 (0)]) (by simp[results,Tryz.results95,go_sem,s0,s1,s2]) rfl ⟨by rw[HE.out,rres_tok a _ _ n _ HEn.out,HXT.out];rfl,(Ext.refl w).alloc _⟩
        ·clear b4
         go_wp2_with fail
         have HBn:=Blk.of_new w 78 [.int .i64 3,.string (s.extract a k),.int .i64 a]
         have s0:=HBn.cell 0
         have s1:=HBn.cell 1
         have s2:=HBn.cell 2
         exact bodyPost_ret (v:= .tuple #[.agg #[.int .i64 3,.string (s.extract a k),.int .i64 a],.int .i64 (k),.int .i64 (0)]) (by simp[results,Tryz.results95,go_sem,s0,s1,s2]) rfl ⟨by rw[HE.out,rres_tok a _ _ n _ HEn.out,HXT.out];rfl,(Ext.refl w).alloc _⟩
      ·have HE:Hid (tokL (s.data.toList.drop a)= .bad 3):=by unfold Hid;rw[HG.out,if_pos (hbig.2 (.inr ⟨he10,hb⟩))]
       obtain⟨ht1,ht2⟩:=(HTEN.out (by rw[HLN.out];exact he10)).1 hb
       have hxl:(s.extract a k).toList=(s.data.toList.drop a).take n:=by rw[ByteArray.toList_eq,HPL.out]
       rw[←hxl]at ht1 ht2
       have b6:Op.bytesLess (s.extract a k).toList [50,49,52,55,52,56,51,54,52,56]=false:=ht1
       have b7:((s.extract a k).toList== [50,49,52,55,52,56,51,54,52,56])=false:=ht2
       clear hbig hb hxl ht1 ht2
       rcases hcase with h1|⟨h1,b1⟩
       ·omega
       ·go_wp2_with fail
        exact bodyPost_ret (v:= .tuple #[.agg #[.int .i64 0,.string ⟨#[]⟩,.int .i64 0],.int .i64 0,.int .i64 (3)]) (by simp[results,Tryz.results95,go_sem,hc0,hc1,hc2]) rfl ⟨by rw[HE.out];rfl,(Ext.refl w).alloc _⟩
     ·have HE:Hid (tokL (s.data.toList.drop a)= .tok 3 ((s.data.toList.drop a).take n) n):=by
       unfold Hid
       rw[HG.out,if_neg]
       intro h
       rcases hbig.1 h with h|⟨h,_⟩
       ·exact h10 h
       ·exact he10 h
      clear hbig
      rcases hcase with h1|⟨h1,b1⟩
      all_goals
       go_wp2_with fail
       have HBn:=Blk.of_new w 78 [.int .i64 3,.string (s.extract a k),.int .i64 a]
       have s0:=HBn.cell 0
       have s1:=HBn.cell 1
       have s2:=HBn.cell 2
       exact bodyPost_ret (v:= .tuple #[.agg #[.int .i64 3,.string (s.extract a k),.int .i64 a],.int .i64 (k),.int .i64 (0)]) (by simp[results,Tryz.results95,go_sem,s0,s1,s2]) rfl ⟨by rw[HE.out,rres_tok a _ _ n _ HEn.out,HXT.out];rfl,(Ext.refl w).alloc _⟩
theorem next_any (s:ByteArray) (a:Nat) (w:World) (hs:s.size≤20000) (ha:a<s.size):Calls Tryz.prog 95 #[.string s,.int .i64 a] w fun e w'=>e= .returned (RRes a (tokL (s.data.toList.drop a)))∧Ext w w':=by
 cases hl:isLetter s[a]
 ·cases hd:isDigit s[a]
  ·by_cases hq:s[a].toNat=39
   ·exact next_text s a w hs ha hq
   ·exact next_symbol s a w hs ha hl hd hq
  ·exact next_digit s a w hs ha hl hd
 ·exact next_letter s a w hs ha hl
end Lx
namespace Lx
theorem info_c43:(Tryz.prog.info? 78).map (fun i=> (i.zero,i.size,i.bytes))=some (some (.agg #[.int .i64 0,.string ⟨#[]⟩,.int .i64 0]),3,32):=by kernel_rfl
theorem rtokens_cap (s:ByteArray) (w:World) (hs:s.size≤20000):Calls Tryz.prog 51 #[.string s] w fun e w'=> ∃v,e= .returned v∧TokRes2 (tokAll s) v w'∧Ext w w':=by
 by_cases hbig:16384<s.size
 ·have HE:Hid (tokAll s= .bad 16384 3):=if_pos hbig
  go_enter Tryz.func51,Tryz.ntmps51
  go_wp2_with fail
  go_ret3
  exact⟨_,rfl,by rw[HE.out];exact TokRes2.bad _ _ _,Ext.refl _⟩
 have HE:Hid (tokAll s=T s.data.toList 0):=if_neg hbig
 obtain⟨i0,hi,hz0,hz1,hz2⟩:=info_parts info_c43
 have hsk:skipN false s.data.toList≤s.size:=skip_le false s.data.toList
 have HSK:=hid (fun W a (ha:a≤s.size)=>rskip_any s a W hs ha)
 have HSKL:Hid (∀a,a≤s.size→a+skipN false (s.data.toList.drop a)≤s.size):=fun a ha=>by
  have:=skip_le false (s.data.toList.drop a)
  rw[List.length_drop,lst_len]at this
  omega
 go_enter Tryz.func51,Tryz.ntmps51
 go_wp2_with (go_at_call 94;refine(HSK.out _ 0 (Nat.zero_le _)).mono ?_;rintro e' w1 ⟨rfl,hw1⟩;subst w1)
 go_loopw [5,6] (fun v i wr=> ∃(p:Nat) (out:List Tk),p≤s.size∧i= .int .i64 ((p+skipN false (s.data.toList.drop p):Nat):Int)∧wr.ownsRow w.heap.size 78 3 v out.length (tkc out)∧out.length≤p∧Ext w wr∧T s.data.toList 0=(T (s.data.toList.drop p) p).pre out) (fun _ i _=>s.size- (intOf i).toNat)
 case atStart=>exact⟨0,[],Nat.zero_le _,by simp,World.ownsRow_nil _ _ _ _,Nat.zero_le _,Ext.refl w,by rw[List.drop_zero];cases T s.data.toList 0<;>rfl⟩
 case round=>
  obtain⟨p,out,hp,rfl,hown,hop,hxr,hv⟩:=hrel
  have HV:=hid hv
  clear hv
  obtain⟨k,hkk⟩:∃k,p+skipN false (s.data.toList.drop p)=k:=⟨_,rfl⟩
  have hks:k≤s.size:=hkk ▸ HSKL.out p hp
  rw[hkk]
  by_cases hlt:k<s.size
  ·have hd:(s.data.toList.drop p).drop (skipN false (s.data.toList.drop p))=s[k]::s.data.toList.drop (k+1):=by rw[List.drop_drop,hkk,drop1 s k hlt]
   have hC:∀W,Calls Tryz.prog 95 #[.string s,.int .i64 k] W fun e w'=>e= .returned (RRes k (tokL (s[k]::s.data.toList.drop (k+1))))∧Ext W w':=by
    intro W
    have:=next_any s k W hs hlt
    rw[drop1 s k hlt]at this
    exact this
   cases ht:tokL (s[k]::s.data.toList.drop (k+1))with
   |bad e=>
    have hR:T s.data.toList 0= .bad k e:=by rw[HV.out,T_bad _ p _ _ e hd ht,hkk];rfl
    have hb:=tok_bad _ _ e ht
    have b1:((e:Int) !=0)=true:=by rw[bne_iff_ne];omega
    rw[ht]at hC
    have HC:=hid hC
    have HR:=hid hR
    clear hC hR hd hb ht hkk
    simp only[RRes]at HC
    go_wp2_with (go_at_call 95;refine(HC.out _).mono ?_;rintro e' w1 ⟨rfl,hx1⟩)
    go_ret3
    exact⟨_,rfl,by rw[HE.out,HR.out];exact TokRes2.bad _ _ _,(hxr.trans hx1).alloc _⟩
   |tok kd x n=>
    have hR:T s.data.toList 0=(T (s.data.toList.drop (k+n)) (k+n)).pre (out++ [⟨kd,x,k⟩]):=by
     rw[HV.out,T_tok _ p _ _ kd x n hd ht,pre_pre,hkk,←drop1 s k hlt,List.drop_drop]
    have hbd:=tok_bound _ _ kd x n ht
    have hb2:k+n≤s.size:=by
     have:=hbd.2
     rw[List.length_cons,List.length_drop,lst_len]at this
     omega
    have hb1:=hbd.1
    rw[ht]at hC
    have HC:=hid hC
    have HR:=hid hR
    have HKK:=hid hkk
    have hpk:p≤k:=by omega
    clear hC hR hd hbd ht hkk
    simp only[RRes]at HC
    have HBE:∀w1:World,Ext wr w1→w.heap.size≤w1.heap.size+1+1:=fun w1 h=>by have:=h.size;have:=hxr.size;omega
    go_wp2_with (first
     |(go_at_call 95;refine(HC.out _).mono ?_;rintro e' w1 ⟨rfl,hx1⟩;have HO:=hid (ownN_ext hown ((hx1.alloc (.cells #[.int .i64 kd,.string ⟨x.toArray⟩,.int .i64 k] 78)).alloc (.cells #[.int .i64 kd,.string ⟨x.toArray⟩,.int .i64 k] 78)));have hbe:=HBE w1 hx1;clear HBE)
     |(at_builtin;refine wpList_append_own _ rfl _ _ 75 rfl w.heap.size 78 i0 (.agg #[.int .i64 0,.string ⟨#[]⟩,.int .i64 0]) 3 32 Tryz.underlying75 hi hz0 hz1 hz2 rfl (by decide) _ _ _ rfl HO.out ⟨_,0,none⟩ 1 1 (Tk.cells ⟨kd,x,k⟩) rfl rfl (news_at _ _ _ _ (by simp)) (by intro u hu;simp[Tk.cells]at hu;rcases hu with rfl|rfl|rfl<;>rfl) (by unfold maxLen;omega) (by omega) (by simp;omega) ?_;intro v' w2 hown' hgrow _)
     |(go_at_call 94;refine(HSK.out _ (k+n) hb2).mono ?_;rintro e' w3 ⟨rfl,hw3⟩;subst w3))
    go_roundw
    case rel=>
     refine⟨k+n,out++ [⟨kd,x,k⟩],hb2,rfl,by rw[tkc_snoc,List.length_append];exact hown',by rw[List.length_append];simp only[List.length_cons,List.length_nil];omega,Ext.grown ((hxr.trans hx1).alloc _|>.alloc _) hgrow (fun g hg=>own_ge hown hg),HR.out⟩
    case measure=>simp[intOf];omega
  ·have hd:(s.data.toList.drop p).drop (skipN false (s.data.toList.drop p))= []:=by rw[List.drop_drop,hkk];exact List.drop_of_length_le (by rw[lst_len];omega)
   have hR:T s.data.toList 0= .ok (out++ [⟨0,[],s.size⟩]):=by rw[HV.out,T_end _ p hd,hkk,show k=s.size by omega];rfl
   have HR:=hid hR
   have HKK:=hid hkk
   have hpk:p≤k:=by omega
   have HBE:w.heap.size≤wr.heap.size+1:=by have:=hxr.size;omega
   have HO:=hid (ownN_ext hown ((Ext.refl wr).alloc (.cells #[.int .i64 0,.string ⟨#[]⟩,.int .i64 s.size] 78)))
   clear hd hR hkk
   go_wp2_with (at_builtin;refine wpList_append_own _ rfl _ _ 75 rfl w.heap.size 78 i0 (.agg #[.int .i64 0,.string ⟨#[]⟩,.int .i64 0]) 3 32 Tryz.underlying75 hi hz0 hz1 hz2 rfl (by decide) _ _ _ rfl HO.out ⟨_,0,none⟩ 1 1 (Tk.cells ⟨0,[],s.size⟩) rfl rfl (news_at _ _ _ _ (by simp)) (by intro u hu;simp[Tk.cells]at hu;rcases hu with rfl|rfl|rfl<;>rfl) (by unfold maxLen;omega) (by omega) (by simp;omega) ?_;intro v' w2 hown' hgrow _)
   have hx2:Ext w w2:=Ext.grown (hxr.alloc _) hgrow (fun g hg=>own_ge hown hg)
   have ho2:w2.ownsRow w.heap.size 78 3 v' (out++ [(⟨0,[],s.size⟩:Tk)]).length (tkc (out++ [⟨0,[],s.size⟩])):=by rw[tkc_snoc,List.length_append];exact hown'
   obtain⟨A,c,rfl,hat,hlen,hcap⟩:=own_tks2 ho2
   go_ret3
   refine⟨_,rfl,?_,hx2⟩
   rw[HE.out,HR.out]
   exact⟨A,c,by rw[hlen];rfl,hat,by show(out++ [(⟨0,[],s.size⟩:Tk)]).length≤c;rw[hlen];exact hcap⟩
end Lx
end Go.Proofs.YtjigcpfjhfoheaaGreatDoor
