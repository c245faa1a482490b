/- Steps of the laws' walks: a guarded load, a guarded build; long; Walk: ParserSpace. -/
import Derived.Test.YtjigcpfjhfoheaaGreatDoorYci
import Derived.Great.BuildSlice
import Derived.Test.YtjigcpfjhfoheaaGreatDoorYcj
import Derived.Test.YtjigcpfjhfoheaaGreatDoorYae
import Derived.Test.YtjigcpfjhfoheaaGreatDoorYbf
import Derived.Test.YtjigcpfjhfoheaaGreatDoorYab
import Derived.Test.YtjigcpfjhfoheaaGreatDoorYac
namespace Go.Proofs.YtjigcpfjhfoheaaGreatDoor
open Go.RowKit
set_option maxHeartbeats 4000000
set_option maxRecDepth 100000
set_option linter.unusedVariables false
set_option linter.unusedSimpArgs false
theorem nu (s:ByteArray) (w:World) (a:s.size≤maxLen):Calls Tryz.prog 12 #[.string s] w fun e w'=>e= .returned (.bool (decide ((1500:Int)<(s.size:Int))))∧Ext w w':=by
 go_enter Tryz.func12,Tryz.ntmps12
 go_wp2_with fail
 go_ret
 exact⟨rfl,Ext.refl w⟩
theorem ldSg {P:Program} {ops:Array Oper} {rest:List Oper} {o:Oper} {a:Act} {w:World} {Q:Exit→Act→World→Prop} (e:Region.wanted o (yielded ops a.tmps)=true) (ty:TypeId) (x:Operand) (b:o.op= .load ty x)
  (g:Nat) (k:a.eval x= .pointer (some ⟨g,0,none⟩)) (t:TypeId) (cs:List Value) (d:TypeDesc) (i:Blk w g t cs)
  (f:P.underlying ty=some d) (hd:(match d with| .struct _| .array _ _=>true|_=>false)=true) (hi:(P.info? ty).map (·.size)=some cs.length)
  (h:wpList P ops Q rest (a.put o.dst (.agg cs.toArray)) w):wpList P ops Q (o::rest) a w:=by
 refine wpList_step fun K j=>?_
 rw[if_pos e]
 exact wp_load_row ty x b g k t cs.toArray (0,0) d i f hd (by simpa using hi) (j _ _ h)
section
open Lx (Tk upC loC)
theorem T_bad_le:∀(m:Nat) (l:List UInt8) (p a e:Nat),l.length≤m→Lx.T l p= .bad a e→a≤p+l.length:=by
 intro m
 induction m with
 |zero=>
  intro l p a e i h
  obtain rfl:l= []:=List.eq_nil_of_length_eq_zero (by omega)
  rw[Lx.T_end [] p rfl]at h
  cases h
 |succ m ih=>
  intro l p a e i h
  have hs:=Lx.skip_le false l
  cases hd:l.drop (Lx.skipN false l)with
  |nil=>rw[Lx.T_end l p hd]at h;cases h
  |cons c r=>
   cases b:Lx.tokL (c::r)with
   |bad e'=>
    rw[Lx.T_bad l p c r e' hd b]at h
    injection h with h _
    omega
   |tok k x n=>
    have j:=Lx.tok_bound c r k x n b
    have g:(c::r).length=l.length-Lx.skipN false l:=by rw[←hd,List.length_drop]
    rw[Lx.T_tok l p c r k x n hd b]at h
    cases f:Lx.T ((c::r).drop n) (p+Lx.skipN false l+n)with
    |bad a' e'=>
     rw[f]at h
     injection h with h _
     subst h
     have:=ih _ _ _ _ (by rw[List.length_drop];omega) f
     rw[List.length_drop]at this
     omega
    |ok z=>rw[f]at h;cases h
theorem parS_pos (i:St→Int) (s:ByteArray) (hs:s.size≤20000):∃a:Nat,(parS i s).2.1=a∧a≤20000:=by
 have q:s.data.toList.length=s.size:=Array.length_toList
 unfold parS
 cases h:Lx.tokAll s with
 |bad a e=>
  refine⟨a,rfl,?_⟩
  unfold Lx.tokAll at h
  split at h
  ·injection h with h _
   omega
  ·have:=T_bad_le _ _ _ _ _ (Nat.le_refl _) h
   omega
 |ok L=>
  have k:=eD h
  have j:∀st:Ps,(∀a∈st.r,a∈L)→st.hd.pos≤20000:=fun st n=>by
   unfold Ps.hd
   cases m:st.r with
   |nil=>exact Nat.zero_le _
   |cons a l=>exact k.pos a (n a (by rw[m];exact List.mem_cons_self))
  simp only
  cases f:dl (stmP (L.length+1)) L with
  |inl a=>
   refine⟨a,rfl,?_⟩
   unfold dl at f
   split at f
   ·injection f with f
    subst f
    obtain⟨A,o,_⟩:=(((iR (L.length+1)).sfx ⟨L,false⟩).trans (lj _))
    have p:L=A++(endP (stmP (L.length+1) ⟨L,false⟩).2).r:=o
    refine j _ fun b g=>?_
    rw[p]
    exact List.mem_append_right _ g
   ·cases f
  |inr x=>
   simp only
   split
   ·exact⟨0,rfl,by omega⟩
   ·exact⟨_,rfl,j _ fun b g=>g⟩
theorem mix_get (a:List UInt8) (s:ByteArray) (k:Nat) (b:a.length=k) (h:k<s.size) (e:k<(a++s.data.toList.drop k).length):(a++s.data.toList.drop k)[k]=s[k]:=by
 rw[List.getElem_append_right (by omega)]
 simp only[b,Nat.sub_self,Lx.drop1 s k h,List.getElem_cons_zero]
theorem mix_len (a:List UInt8) (s:ByteArray) (k:Nat) (b:a.length=k) (h:k≤s.size):(a++s.data.toList.drop k).length=s.size:=by
 rw[List.length_append,List.length_drop,Lx.lst_len];omega
theorem mix_set (a:List UInt8) (s:ByteArray) (k:Nat) (c:UInt8) (b:a.length=k) (h:k<s.size):(a++s.data.toList.drop k).set k c=(a++ [c])++s.data.toList.drop (k+1):=by
 rw[List.set_append_right _ _ (by omega),b,Nat.sub_self,Lx.drop1 s k h,List.set_cons_zero,List.append_assoc]
 rfl
theorem mix_same (a:List UInt8) (s:ByteArray) (k:Nat) (h:k<s.size):a++s.data.toList.drop k=(a++ [s[k]])++s.data.toList.drop (k+1):=by
 rw[Lx.drop1 s k h,List.append_assoc];rfl
theorem law_space (s:ByteArray) (w:World) (hm:s.size≤maxLen) (z:Pg w):Calls Tryz.prog 9 #[.string s] w fun r w'=>r= .returned (.bool true)∧Ext w w':=by
 have HG:=hid z
 have m:=hid (Ext.refl w)
 clear z
 by_cases hs:s.size≤1500
 rotate_left
 ·have R:decide ((1500:Int)<(s.size:Int))=true:=by simp;omega
  go_enter Tryz.func9,Tryz.ntmps9
  go_wp2_with fail
  refine(awk_any w HG).mono ?_
  rintro _ w1 ⟨rfl,f⟩
  go_wp2_with fail
  refine(nu s w1 hm).mono ?_
  rintro _ w2 ⟨rfl,cb⟩
  rw[R]
  go_wp2_with fail
  go_ret
  exact⟨rfl,f.trans cb⟩
 have R:decide ((1500:Int)<(s.size:Int))=false:=by simp;omega
 obtain⟨S,hS⟩:∃x,(⟨#[32,9,45,45,32,120,39,10]⟩:ByteArray)++s++(⟨#[10]⟩:ByteArray)=x:=⟨_,rfl⟩
 have bw:S.data.toList=preL++(s.data.toList++ [10]):=by
  rw[←hS]
  simp[ByteArray.data_append,Array.toList_append,preL]
 have an:S.size≤20000:=by
  rw[←hS,ByteArray.size_append,ByteArray.size_append]
  have J:(⟨#[10]⟩:ByteArray).size=1:=rfl
  have h2:(⟨#[32,9,45,45,32,120,39,10]⟩:ByteArray).size=8:=rfl
  omega
 obtain⟨e1,e2,e3⟩:=space_law validS s S hs bw
 obtain⟨a0,bY,b7⟩:=parS_pos validS s (by omega)
 have a3:=hid (fun (s':ByteArray) (h:s'.data.toList.map upC=s.data.toList.map upC) (hq:∀c∈s.data.toList,c.toNat≠39)=>case_law validS s s' h hq)
 have H1:=hid (fun W h=>bX s W (by omega) h)
 have H2:=hid (fun W h=>bX S W an h)
 have H3:=hid (fun (s':ByteArray) (hz:s'.size≤20000) W h=>bX s' W hz h)
 generalize parS validS S=R2 at*
 generalize parS validS s=R1 at*
 obtain⟨X,a1,e⟩:=R1
 obtain⟨E,t1,ee⟩:=R2
 simp only at e1 e2 e3 bY H1 H2 a3
 subst e1 e2 bY
 have bf:=hid e3
 have ci:=hid (st_refl E)
 have a5:=hid (fun W=>Lx.conv_blk (P:=Tryz.prog) W 9 60 5 s Tryz.underlying9 Tryz.underlying60 Tryz.underlying5)
 have cw:=hid an
 have cc:=hid hS
 have a2:=hid hs
 clear e3 bw an hS hs
 have b4:s.size≤1500:=a2.out
 have O:((⟨#[32,9,45,45,32,120,39,10]⟩:ByteArray)++s).size=8+s.size:=by rw[ByteArray.size_append];rfl
 go_enter Tryz.func9,Tryz.ntmps9
 go_wp2_with fail
 refine(awk_any w HG).mono ?_
 rintro _ w1 ⟨rfl,f⟩
 replace m:=hid (m.trans f)
 clear f
 go_wp2_with fail
 refine(nu s w1 hm).mono ?_
 rintro _ w2 ⟨rfl,f⟩
 replace m:=hid (m.trans f)
 clear f
 rw[R]
 clear R
 go_wp2_with fail
 refine(H1 w2 (HG.ext m)).mono ?_
 rintro _ w3 ⟨f,b1,rfl,h3⟩
 replace m:=hid (m.trans f)
 clear f
 have j:=hid h3.now.1
 clear h3 H1
 unfold St.val
 go_upto_region 6 with (first|(refine Great.wpList_allocTo rfl _ rfl (.pointer (some ⟨_,0,none⟩)) (.cells #[.int .i64 0,.string ⟨#[]⟩,.slice none 0 0,.slice none 0 0,.slice none 0 0,.slice none 0 0,.slice none 0 0,.slice none 0 0,.slice none 0 0,.slice none 0 0,.int .i64 0,.string ⟨#[]⟩,.string ⟨#[]⟩,.int .i64 0,.int .i64 0,.int .i64 0,.string ⟨#[]⟩,.slice none 0 0,.slice none 0 0,.slice none 0 0,.int .i64 0,.string ⟨#[]⟩] 40) (by kernel_rfl) ?_)|(refine stS' rfl rfl rfl (St.cells E b1) rfl rfl (cs:=sC) rfl rfl (by kernel_rfl) ?_))
 have f:=(Ext.refl w3).alloc (.cells (St.cells E b1).toArray 40)
 have l:=hid (Blk.of_new w3 40 (St.cells E b1))
 replace m:=hid (m.trans f)
 replace j:=hid (j.ext f)
 clear f
 generalize H:World.alloc _ _=w4
 obtain⟨p,z⟩:∃g,w3.heap.size=g:=⟨_,rfl⟩
 rw[H,z]at l
 rw[H]at m j
 rw[z]
 clear H z
 go_wp2_with fail
 rw[cc.out]
 refine(H2 w4 (HG.ext m)).mono ?_
 rintro _ w5 ⟨f,b2,rfl,h3⟩
 replace m:=hid (m.trans f)
 replace j:=hid (j.ext f)
 replace l:=hid (l.ext f)
 clear f
 have o:=hid h3.now.1
 clear h3 H2 O b4
 unfold St.val
 go_upto_region 7 with (first|(refine Great.wpList_allocTo rfl _ rfl (.pointer (some ⟨_,0,none⟩)) (.cells #[.int .i64 0,.string ⟨#[]⟩,.slice none 0 0,.slice none 0 0,.slice none 0 0,.slice none 0 0,.slice none 0 0,.slice none 0 0,.slice none 0 0,.slice none 0 0,.int .i64 0,.string ⟨#[]⟩,.string ⟨#[]⟩,.int .i64 0,.int .i64 0,.int .i64 0,.string ⟨#[]⟩,.slice none 0 0,.slice none 0 0,.slice none 0 0,.int .i64 0,.string ⟨#[]⟩] 40) (by kernel_rfl) ?_)|(refine stS' rfl rfl rfl (St.cells E b2) rfl rfl (cs:=sC) rfl rfl (by kernel_rfl) ?_))
 have f:=(Ext.refl w5).alloc (.cells (St.cells E b2).toArray 40)
 have D:=hid (Blk.of_new w5 40 (St.cells E b2))
 replace m:=hid (m.trans f)
 replace j:=hid (j.ext f)
 replace l:=hid (l.ext f)
 replace o:=hid (o.ext f)
 clear f
 generalize H:World.alloc _ _=w6
 obtain⟨y,z⟩:∃g,w5.heap.size=g:=⟨_,rfl⟩
 rw[H,z]at D
 rw[H]at m j l o
 rw[z]
 clear H z
 have u:=hid (fun (a b:SA) (W:World) J h2=>mH E E a b W J h2)
 rw[ci.out]at u
 unfold St.val at u
 go_cut [57] from 33 to 57 (fun cv wx=>cv= .bool false∧Ext w6 wx)
 case first=>
  have ck:(a0:Int)≤20000:=by omega
  have cl:(0:Int)≤(a0:Int):=by omega
  by_cases he:ee=0
  ·subst he
   go_wp2_with (first|(refine ldSg rfl 40 (.tmp 3) rfl p rfl 40 _ _ l Tryz.underlying40 rfl (by kernel_rfl) ?_)|(refine ldSg rfl 40 (.tmp 6) rfl y rfl 40 _ _ D Tryz.underlying40 rfl (by kernel_rfl) ?_)|(go_at_call 15;(with_reducible refine(u.out _ _ _ j.out o.out).mono ?_);rintro _ Q ⟨rfl,f⟩))
   go_meet
   exact⟨rfl,f⟩
  have cy:(ee !=0)=true:=bne_iff_ne.2 he
  rcases bf.out he with h|h
  ·subst h
   have h9:((a0:Int)+8 !=(a0:Int)+8)=false:=bne_self_eq_false _
   go_wp2_with (first|(refine ldSg rfl 40 (.tmp 3) rfl p rfl 40 _ _ l Tryz.underlying40 rfl (by kernel_rfl) ?_)|(refine ldSg rfl 40 (.tmp 6) rfl y rfl 40 _ _ D Tryz.underlying40 rfl (by kernel_rfl) ?_)|(go_at_call 15;(with_reducible refine(u.out _ _ _ j.out o.out).mono ?_);rintro _ Q ⟨rfl,f⟩))
   go_meet
   exact⟨rfl,f⟩
  ·have h8:((a0:Int) !=(s.size:Int))=false:=by rw[h];exact bne_self_eq_false _
   clear h
   obtain⟨q,hq⟩:∃q,((a0:Int)+8 !=t1)=q:=⟨_,rfl⟩
   cases q
   ·go_wp2_with (first|(refine ldSg rfl 40 (.tmp 3) rfl p rfl 40 _ _ l Tryz.underlying40 rfl (by kernel_rfl) ?_)|(refine ldSg rfl 40 (.tmp 6) rfl y rfl 40 _ _ D Tryz.underlying40 rfl (by kernel_rfl) ?_)|(go_at_call 15;(with_reducible refine(u.out _ _ _ j.out o.out).mono ?_);rintro _ Q ⟨rfl,f⟩))
    go_meet
    exact⟨rfl,f⟩
   ·go_wp2_with (first|(refine ldSg rfl 40 (.tmp 3) rfl p rfl 40 _ _ l Tryz.underlying40 rfl (by kernel_rfl) ?_)|(refine ldSg rfl 40 (.tmp 6) rfl y rfl 40 _ _ D Tryz.underlying40 rfl (by kernel_rfl) ?_)|(go_at_call 15;(with_reducible refine(u.out _ _ _ j.out o.out).mono ?_);rintro _ Q ⟨rfl,f⟩))
    go_meet
    exact⟨rfl,f⟩
 case rest=>
  obtain⟨rfl,f⟩:=hcut
  generalize wc=Q at*
  replace m:=hid (m.trans f)
  replace l:=hid (l.ext f)
  replace j:=hid (j.ext f)
  clear f D o bf b7
  have a9:=hid m
  have b5:=hid l
  have b0:=hid j
  obtain⟨cj,w8,rest,b6,I,bm,O⟩:=a5 Q
  have HZ:=hid bm
  replace m:=hid (m.trans I)
  replace l:=hid (l.ext I)
  replace j:=hid (j.ext I)
  have cd:=hid I
  clear bm I a5
  go_wp2_with fail
  go_loopw [10,11,62] (fun _ _ i wr=> ∃(k:Nat) (n:List UInt8),k≤s.size∧i= .int .i64 k∧n.length=k∧Lx.BM wr Q.heap.size 5 (Lx.b8 (n++s.data.toList.drop k)++rest)∧Ext Q wr∧n.map upC=(s.data.toList.take k).map upC∧∀x∈s.data.toList.take k,x.toNat≠39) (fun _ _ i _=>s.size- (intOf i).toNat)
  case atStart=>exact⟨0,[],Nat.zero_le _,rfl,rfl,by rw[List.drop_zero];exact O,cd,rfl,fun x f=>by simp at f⟩
  case round=>
   obtain⟨k,n,bN,rfl,C,B,t,a4,a6⟩:=hrel
   have HB:=hid B
   have V:=hid a4
   have Y:=hid a6
   have G:=hid C
   clear a4 a6 O b6
   have b4:s.size≤1500:=a2.out
   by_cases A:k<s.size
   ·have U:k<(n++s.data.toList.drop k).length:=by rw[mix_len n s k C bN];exact A
    have b9:=B.cell (Lx.b8_get' _ rest k U)
    rw[mix_get n s k C A U]at b9
    have cA:wr.frozen? ⟨Q.heap.size,k,none⟩=false:=B.frozen (by rw[List.length_append,Lx.b8_len];omega)
    have HT:=hid (Lx.take1 s k A)
    have cf:=s[k].toNat_lt
    clear B C
    by_cases hq:s[k].toNat=39
    ·have b1:((s[k].toNat:Int)==39)=true:=by rw[hq];rfl
     clear hq
     go_wp2_with fail
     go_ret
     exact⟨rfl,a9.trans t⟩
    have b1:((s[k].toNat:Int)==39)=false:=by rw[beq_eq_false_iff_ne];omega
    have HQ:Hid (s[k].toNat≠39):=hq
    clear hq
    by_cases Z:97≤s[k].toNat∧s[k].toNat≤122
    ·obtain⟨ax,ac⟩:=Z
     have ad:Hid ((s[k].toNat:Int)-32=((upC s[k]).toNat:Int)):=by
      have:=Lx.upC_num s[k]
      rw[if_pos ⟨ax,ac⟩]at this
      unfold Hid
      omega
     go_wp2_with fail
     have J:=HB.set k (.int .u8 ((upC s[k]).toNat:Int))
     rw[Lx.b8_set _ rest k _ U,mix_set n s k _ G.out A]at J
     rw[←ad.out]at J
     rotate_left 0
     go_roundw
     case rel=>
      refine⟨k+1,n++ [upC s[k]],by omega,by go_num,by rw[List.length_append,G.out];rfl,J,t.setCell (Nat.le_refl _) _,by rw[List.map_append,V.out,HT.out,List.map_append,List.map_singleton,List.map_singleton,Lx.up_up],fun x f=>?_⟩
      rw[HT.out]at f
      rcases List.mem_append.1 f with h|h
      ·exact Y x h
      ·rw[List.mem_singleton.1 h];exact HQ
     case measure=>simp[intOf];omega
    by_cases bx:65≤s[k].toNat∧s[k].toNat≤90
    ·obtain⟨ax,ac⟩:=bx
     have c0:¬97≤s[k].toNat:=by omega
     clear Z
     have ad:Hid ((s[k].toNat:Int)+32=((loC s[k]).toNat:Int)):=by
      have:=Lx.loC_num s[k]
      rw[if_pos ⟨ax,ac⟩]at this
      unfold Hid
      omega
     go_wp2_with fail
     have J:=HB.set k (.int .u8 ((loC s[k]).toNat:Int))
     rw[Lx.b8_set _ rest k _ U,mix_set n s k _ G.out A]at J
     rw[←ad.out]at J
     rotate_left 0
     go_roundw
     case rel=>
      refine⟨k+1,n++ [loC s[k]],by omega,by go_num,by rw[List.length_append,G.out];rfl,J,t.setCell (Nat.le_refl _) _,by rw[List.map_append,V.out,HT.out,List.map_append,List.map_singleton,List.map_singleton,up_lo],fun x f=>?_⟩
      rw[HT.out]at f
      rcases List.mem_append.1 f with h|h
      ·exact Y x h
      ·rw[List.mem_singleton.1 h];exact HQ
     case measure=>simp[intOf];omega
    go_wp2_with fail
    all_goals
     first
      |(exfalso;omega)
      |skip
    all_goals
     go_roundw
     case rel=>
      refine⟨k+1,n++ [s[k]],by omega,by go_num,by rw[List.length_append,G.out];rfl,by rw[←mix_same n s k A];exact HB,t,by rw[List.map_append,V.out,HT.out,List.map_append],fun x f=>?_⟩
      rw[HT.out]at f
      rcases List.mem_append.1 f with h|h
      ·exact Y x h
      ·rw[List.mem_singleton.1 h];exact HQ
     case measure=>simp[intOf];omega
   have hX:=mix_len n s k C bN
   have bd:(n++s.data.toList.drop k).map upC=s.data.toList.map upC:=by
    have L:s.data.toList.length≤k:=by rw[Lx.lst_len];omega
    rw[List.drop_of_length_le L,List.append_nil,V.out,List.take_of_length_le L]
   have be:∀x∈s.data.toList,x.toNat≠39:=by
    have L:s.data.toList.length≤k:=by rw[Lx.lst_len];omega
    intro x f
    exact Y x (by rw[List.take_of_length_le L];exact f)
   have b6:=Lx.conv_pre (P:=Tryz.prog) (w:=wr) 60 9 5 Q.heap.size cj (n++s.data.toList.drop k) rest s.size hX.symm Tryz.underlying60 Tryz.underlying5 Tryz.underlying9 B
   have bn:(⟨(n++s.data.toList.drop k).toArray⟩:ByteArray).size≤20000:=by
    have hz:(⟨(n++s.data.toList.drop k).toArray⟩:ByteArray).size=s.size:=hX
    have:=a2.out
    omega
   have H4:=hid (fun W h=>H3 _ bn W h)
   rw[a3.out ⟨(n++s.data.toList.drop k).toArray⟩ bd be]at H4
   simp only at H4
   clear bn hX bd be B C H3 a3
   generalize (⟨(n++s.data.toList.drop k).toArray⟩:ByteArray)=F at*
   replace l:=hid (b5.ext t)
   replace j:=hid (b0.ext t)
   replace m:=hid (a9.trans t)
   generalize wr=w9 at*
   go_wp2_with fail
   refine(H4 w9 (HG.ext m)).mono ?_
   rintro _ ag ⟨f,b3,rfl,h3⟩
   replace m:=hid (m.trans f)
   replace j:=hid (j.ext f)
   replace l:=hid (l.ext f)
   clear f
   have K:=hid h3.now.1
   clear h3 H4
   unfold St.val
   go_upto_region 21 with (first|(refine Great.wpList_allocTo rfl _ rfl (.pointer (some ⟨_,0,none⟩)) (.cells #[.int .i64 0,.string ⟨#[]⟩,.slice none 0 0,.slice none 0 0,.slice none 0 0,.slice none 0 0,.slice none 0 0,.slice none 0 0,.slice none 0 0,.slice none 0 0,.int .i64 0,.string ⟨#[]⟩,.string ⟨#[]⟩,.int .i64 0,.int .i64 0,.int .i64 0,.string ⟨#[]⟩,.slice none 0 0,.slice none 0 0,.slice none 0 0,.int .i64 0,.string ⟨#[]⟩] 40) (by kernel_rfl) ?_)|(refine stS' rfl rfl rfl (St.cells E b3) rfl rfl (cs:=sC) rfl rfl (by kernel_rfl) ?_))
   have f:=(Ext.refl ag).alloc (.cells (St.cells E b3).toArray 40)
   have bk:=hid (Blk.of_new ag 40 (St.cells E b3))
   replace m:=hid (m.trans f)
   replace j:=hid (j.ext f)
   replace l:=hid (l.ext f)
   replace K:=hid (K.ext f)
   clear f
   generalize H:World.alloc _ _=cH
   obtain⟨ba,z⟩:∃g,ag.heap.size=g:=⟨_,rfl⟩
   rw[H,z]at bk
   rw[H]at m j l K
   rw[z]
   clear H z
   go_wp2_with (first|(refine ldSg rfl 40 (.tmp 3) rfl p rfl 40 _ _ l Tryz.underlying40 rfl (by kernel_rfl) ?_)|(refine ldSg rfl 40 (.tmp 12) rfl ba rfl 40 _ _ bk Tryz.underlying40 rfl (by kernel_rfl) ?_)|(go_at_call 15;(with_reducible refine(u.out _ _ _ j.out K.out).mono ?_);rintro _ cx ⟨rfl,f⟩))
   go_ret
   exact⟨ab (by simp),m.trans f⟩
end
end Go.Proofs.YtjigcpfjhfoheaaGreatDoor
