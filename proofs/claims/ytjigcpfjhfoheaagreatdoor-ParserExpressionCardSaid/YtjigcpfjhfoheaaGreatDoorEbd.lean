/- Walks: IndexFunc, ContainsFunc and wrong, for the slices of a statement; Walks: list, for the slices of a statement. -/
import Derived.Test.YtjigcpfjhfoheaaGreatDoorEbb
import Derived.Test.YtjigcpfjhfoheaaGreatDoorEah
import Derived.Test.YtjigcpfjhfoheaaGreatDoorEbc
import Derived.Test.YtjigcpfjhfoheaaGreatDoorEaa
namespace Go.Proofs.YtjigcpfjhfoheaaGreatDoor
open Go.RowKit
set_option maxHeartbeats 4000000
set_option maxRecDepth 100000
set_option linter.unusedVariables false
set_option linter.unusedSimpArgs false
theorem ix_str (F:FuncId) (hE:Ent F) (p:ByteArray→Bool) (l:List ByteArray) (A:Option Addr) (n c:Nat) (w:World) (hl:l.length=n) (hn:n≤9223372036854775807) (hk:StrsAt w A l)
  (hF:∀x∈l,∀(W:World),Ext w W→(x.size≤9223372036854775807)→Calls Tryz.prog F #[.string x] W fun r W'=>r= .returned (.bool (p x))∧Ext W W'):
  Calls Tryz.prog 267 #[.slice A n c,.func (Fn.func F) #[] #[]] w fun r w'=>IdxOf (l.any p) r∧Ext w w':=by
 unfold Ent at hE
 have HL:=hid hl
 have HK:=hid hk
 have HF:=hid hF
 clear hl hk hF
 go_enter Tryz.func267,Tryz.ntmps267
 go_wp2_with fail
 go_loopw [5,8] (fun _ iv wr=> ∃(k:Nat),k≤n∧iv= .int .i64 k∧(l.take k).any p=false∧Ext w wr) (fun _ i _=>n- (intOf i).toNat)
 case atStart=>exact⟨0,Nat.zero_le _,rfl,rfl,Ext.refl w⟩
 case round=>
  obtain⟨k,hkn,rfl,hr,hxr⟩:=hrel
  have HXr:=hid hxr
  have HRr:=hid hr
  by_cases hlt:k<n
  ·obtain⟨x,hx⟩:=rat_lt HL.out hlt
   obtain⟨hc,b,off,rfl,q0⟩:=(HK.out.ext hxr) k x hx
   have HC:=hid (HF.out x (List.mem_of_getElem? hx) _ hxr hc)
   have HE:=hid hx
   clear hx hxr hr
   cases hp:p x
   ·rw[hp]at HC
    have HP:Hid ((l.take (k+1)).any p=false):=any_step HE.out HRr.out hp
    clear hp
    go_wp2_with fail
    refine HC.out.mono ?_
    rintro _ w2 ⟨rfl,hx2⟩
    go_wp2_with fail
    go_roundw
    case rel=>exact⟨k+1,by omega,by go_num,HP.out,HXr.out.trans hx2⟩
    case measure=>simp[intOf];omega
   ·rw[hp]at HC
    have HP:Hid (l.any p=true):=any_take HE.out hp
    clear hp
    go_wp2_with fail
    refine HC.out.mono ?_
    rintro _ w2 ⟨rfl,hx2⟩
    go_wp2_with fail
    go_ret
    exact⟨⟨k,⟨by omega,by omega⟩,rfl,by rw[HP.out];simp⟩,HXr.out.trans hx2⟩
  ·obtain rfl:k=n:=by omega
   have HP:Hid (l.any p=false):=any_end HL.out HRr.out
   clear hr
   go_wp2_with fail
   go_ret
   exact⟨⟨-1,⟨by omega,by omega⟩,rfl,by rw[HP.out];rfl⟩,HXr.out⟩
theorem co_str (F:FuncId) (hE:Ent F) (p:ByteArray→Bool) (l:List ByteArray) (A:Option Addr) (n c:Nat) (w:World) (hl:l.length=n) (hn:n≤9223372036854775807) (hk:StrsAt w A l)
  (hF:∀x∈l,∀(W:World),Ext w W→(x.size≤9223372036854775807)→Calls Tryz.prog F #[.string x] W fun r W'=>r= .returned (.bool (p x))∧Ext W W'):
  Calls Tryz.prog 237 #[.slice A n c,.func (Fn.func F) #[] #[]] w fun r w'=>r= .returned (.bool (l.any p))∧Ext w w':=by
 have HC:=hid (ix_str F hE p l A n c w hl hn hk hF)
 clear hl hk hF
 go_enter Tryz.func237,Tryz.ntmps237
 go_wp2_with (go_at_call 267;refine HC.out.mono ?_;rintro _ w2 ⟨⟨x,hx,rfl,hx0⟩,hx2⟩;have HX0:=hid hx0;clear hx0)
 go_ret
 exact⟨ret_bool HX0.out,hx2⟩
theorem ixp_cd (F:FuncId) (hE:Ent F) (P:Value) (p:Cd→Bool) (l:List Cd) (A:Option Addr) (n c:Nat) (w:World) (hl:l.length=n) (hn:n≤9223372036854775807) (hk:CdsAt w A l)
  (hF:∀x∈l,∀(W:World),Ext w W→(x.nm.size≤9223372036854775807∧I64 x.ty∧I64 x.lo∧I64 x.hi∧I64 x.mx)→Calls Tryz.prog F #[.agg #[.string x.nm,.int .i64 x.ty,.int .i64 x.lo,.int .i64 x.hi,.int .i64 x.mx,.bool x.nn],P] W fun r W'=>r= .returned (.bool (p x))∧Ext W W'):
  Calls Tryz.prog 268 #[.slice A n c,.func (Fn.func F) #[] #[P]] w fun r w'=>IdxOf (l.any p) r∧Ext w w':=by
 unfold Ent at hE
 have HL:=hid hl
 have HK:=hid hk
 have HF:=hid hF
 clear hl hk hF
 go_enter Tryz.func268,Tryz.ntmps268
 go_wp2_with fail
 go_loopw [5,8] (fun _ iv wr=> ∃(k:Nat),k≤n∧iv= .int .i64 k∧(l.take k).any p=false∧Ext w wr) (fun _ i _=>n- (intOf i).toNat)
 case atStart=>exact⟨0,Nat.zero_le _,rfl,rfl,Ext.refl w⟩
 case round=>
  obtain⟨k,hkn,rfl,hr,hxr⟩:=hrel
  have HXr:=hid hxr
  have HRr:=hid hr
  by_cases hlt:k<n
  ·obtain⟨x,hx⟩:=rat_lt HL.out hlt
   obtain⟨hc,b,off,rfl,q0,q1,q2,q3,q4,q5⟩:=(HK.out.ext hxr) k x hx
   have HC:=hid (HF.out x (List.mem_of_getElem? hx) _ hxr hc)
   have HE:=hid hx
   clear hx hxr hr
   cases hp:p x
   ·rw[hp]at HC
    have HP:Hid ((l.take (k+1)).any p=false):=any_step HE.out HRr.out hp
    clear hp
    go_wp2_with fail
    refine HC.out.mono ?_
    rintro _ w2 ⟨rfl,hx2⟩
    go_wp2_with fail
    go_roundw
    case rel=>exact⟨k+1,by omega,by go_num,HP.out,HXr.out.trans hx2⟩
    case measure=>simp[intOf];omega
   ·rw[hp]at HC
    have HP:Hid (l.any p=true):=any_take HE.out hp
    clear hp
    go_wp2_with fail
    refine HC.out.mono ?_
    rintro _ w2 ⟨rfl,hx2⟩
    go_wp2_with fail
    go_ret
    exact⟨⟨k,⟨by omega,by omega⟩,rfl,by rw[HP.out];simp⟩,HXr.out.trans hx2⟩
  ·obtain rfl:k=n:=by omega
   have HP:Hid (l.any p=false):=any_end HL.out HRr.out
   clear hr
   go_wp2_with fail
   go_ret
   exact⟨⟨-1,⟨by omega,by omega⟩,rfl,by rw[HP.out];rfl⟩,HXr.out⟩
theorem cop_cd (F:FuncId) (hE:Ent F) (P:Value) (p:Cd→Bool) (l:List Cd) (A:Option Addr) (n c:Nat) (w:World) (hl:l.length=n) (hn:n≤9223372036854775807) (hk:CdsAt w A l)
  (hF:∀x∈l,∀(W:World),Ext w W→(x.nm.size≤9223372036854775807∧I64 x.ty∧I64 x.lo∧I64 x.hi∧I64 x.mx)→Calls Tryz.prog F #[.agg #[.string x.nm,.int .i64 x.ty,.int .i64 x.lo,.int .i64 x.hi,.int .i64 x.mx,.bool x.nn],P] W fun r W'=>r= .returned (.bool (p x))∧Ext W W'):
  Calls Tryz.prog 239 #[.slice A n c,.func (Fn.func F) #[] #[P]] w fun r w'=>r= .returned (.bool (l.any p))∧Ext w w':=by
 have HC:=hid (ixp_cd F hE P p l A n c w hl hn hk hF)
 clear hl hk hF
 go_enter Tryz.func239,Tryz.ntmps239
 go_wp2_with (go_at_call 268;refine HC.out.mono ?_;rintro _ w2 ⟨⟨x,hx,rfl,hx0⟩,hx2⟩;have HX0:=hid hx0;clear hx0)
 go_ret
 exact⟨ret_bool HX0.out,hx2⟩
theorem ixp_key (F:FuncId) (hE:Ent F) (P:Value) (p:(List ByteArray)→Bool) (l:List (List ByteArray)) (A:Option Addr) (n c:Nat) (w:World) (hl:l.length=n) (hn:n≤9223372036854775807) (hk:KeysAt w A l)
  (hF:∀x∈l,∀(W:World),Ext w W→∀(Ai:Option Addr) (ni ci:Nat),(x.length=ni∧ni≤9223372036854775807∧StrsAt W Ai x)→Calls Tryz.prog F #[.slice Ai ni ci,P] W fun r W'=>r= .returned (.bool (p x))∧Ext W W'):
  Calls Tryz.prog 269 #[.slice A n c,.func (Fn.func F) #[] #[P]] w fun r w'=>IdxOf (l.any p) r∧Ext w w':=by
 unfold Ent at hE
 have HL:=hid hl
 have HK:=hid hk
 have HF:=hid hF
 clear hl hk hF
 go_enter Tryz.func269,Tryz.ntmps269
 go_wp2_with fail
 go_loopw [5,8] (fun _ iv wr=> ∃(k:Nat),k≤n∧iv= .int .i64 k∧(l.take k).any p=false∧Ext w wr) (fun _ i _=>n- (intOf i).toNat)
 case atStart=>exact⟨0,Nat.zero_le _,rfl,rfl,Ext.refl w⟩
 case round=>
  obtain⟨k,hkn,rfl,hr,hxr⟩:=hrel
  have HXr:=hid hxr
  have HRr:=hid hr
  by_cases hlt:k<n
  ·obtain⟨x,hx⟩:=rat_lt HL.out hlt
   obtain⟨b,off,Ai,ni,ci,rfl,q0,h1,h2,h3⟩:=(HK.out.ext hxr) k x hx
   have HC:=hid (HF.out x (List.mem_of_getElem? hx) _ hxr Ai ni ci ⟨h1,h2,h3⟩)
   have HE:=hid hx
   clear hx hxr hr
   cases hp:p x
   ·rw[hp]at HC
    have HP:Hid ((l.take (k+1)).any p=false):=any_step HE.out HRr.out hp
    clear hp
    go_wp2_with fail
    refine HC.out.mono ?_
    rintro _ w2 ⟨rfl,hx2⟩
    go_wp2_with fail
    go_roundw
    case rel=>exact⟨k+1,by omega,by go_num,HP.out,HXr.out.trans hx2⟩
    case measure=>simp[intOf];omega
   ·rw[hp]at HC
    have HP:Hid (l.any p=true):=any_take HE.out hp
    clear hp
    go_wp2_with fail
    refine HC.out.mono ?_
    rintro _ w2 ⟨rfl,hx2⟩
    go_wp2_with fail
    go_ret
    exact⟨⟨k,⟨by omega,by omega⟩,rfl,by rw[HP.out];simp⟩,HXr.out.trans hx2⟩
  ·obtain rfl:k=n:=by omega
   have HP:Hid (l.any p=false):=any_end HL.out HRr.out
   clear hr
   go_wp2_with fail
   go_ret
   exact⟨⟨-1,⟨by omega,by omega⟩,rfl,by rw[HP.out];rfl⟩,HXr.out⟩
theorem cop_key (F:FuncId) (hE:Ent F) (P:Value) (p:(List ByteArray)→Bool) (l:List (List ByteArray)) (A:Option Addr) (n c:Nat) (w:World) (hl:l.length=n) (hn:n≤9223372036854775807) (hk:KeysAt w A l)
  (hF:∀x∈l,∀(W:World),Ext w W→∀(Ai:Option Addr) (ni ci:Nat),(x.length=ni∧ni≤9223372036854775807∧StrsAt W Ai x)→Calls Tryz.prog F #[.slice Ai ni ci,P] W fun r W'=>r= .returned (.bool (p x))∧Ext W W'):
  Calls Tryz.prog 241 #[.slice A n c,.func (Fn.func F) #[] #[P]] w fun r w'=>r= .returned (.bool (l.any p))∧Ext w w':=by
 have HC:=hid (ixp_key F hE P p l A n c w hl hn hk hF)
 clear hl hk hF
 go_enter Tryz.func241,Tryz.ntmps241
 go_wp2_with (go_at_call 269;refine HC.out.mono ?_;rintro _ w2 ⟨⟨x,hx,rfl,hx0⟩,hx2⟩;have HX0:=hid hx0;clear hx0)
 go_ret
 exact⟨ret_bool HX0.out,hx2⟩
theorem ixp_rf (F:FuncId) (hE:Ent F) (P:Value) (p:Rf→Bool) (l:List Rf) (A:Option Addr) (n c:Nat) (w:World) (hl:l.length=n) (hn:n≤9223372036854775807) (hk:RfsAt w A l)
  (hF:∀x∈l,∀(W:World),Ext w W→∀(A1:Option Addr) (n1 c1:Nat) (A2:Option Addr) (n2 c2:Nat),(x.tb.size≤9223372036854775807∧x.cs.length=n1∧n1≤9223372036854775807∧StrsAt W A1 x.cs∧x.tg.length=n2∧n2≤9223372036854775807∧StrsAt W A2 x.tg)→Calls Tryz.prog F #[.agg #[.slice A1 n1 c1,.string x.tb,.slice A2 n2 c2],P] W fun r W'=>r= .returned (.bool (p x))∧Ext W W'):
  Calls Tryz.prog 270 #[.slice A n c,.func (Fn.func F) #[] #[P]] w fun r w'=>IdxOf (l.any p) r∧Ext w w':=by
 unfold Ent at hE
 have HL:=hid hl
 have HK:=hid hk
 have HF:=hid hF
 clear hl hk hF
 go_enter Tryz.func270,Tryz.ntmps270
 go_wp2_with fail
 go_loopw [5,8] (fun _ iv wr=> ∃(k:Nat),k≤n∧iv= .int .i64 k∧(l.take k).any p=false∧Ext w wr) (fun _ i _=>n- (intOf i).toNat)
 case atStart=>exact⟨0,Nat.zero_le _,rfl,rfl,Ext.refl w⟩
 case round=>
  obtain⟨k,hkn,rfl,hr,hxr⟩:=hrel
  have HXr:=hid hxr
  have HRr:=hid hr
  by_cases hlt:k<n
  ·obtain⟨x,hx⟩:=rat_lt HL.out hlt
   obtain⟨h0,b,off,A1,n1,c1,A2,n2,c2,rfl,q0,q1,q2,h1,h2,h3,h4,h5,h6⟩:=(HK.out.ext hxr) k x hx
   have HC:=hid (HF.out x (List.mem_of_getElem? hx) _ hxr A1 n1 c1 A2 n2 c2 ⟨h0,h1,h2,h3,h4,h5,h6⟩)
   have HE:=hid hx
   clear hx hxr hr
   cases hp:p x
   ·rw[hp]at HC
    have HP:Hid ((l.take (k+1)).any p=false):=any_step HE.out HRr.out hp
    clear hp
    go_wp2_with fail
    refine HC.out.mono ?_
    rintro _ w2 ⟨rfl,hx2⟩
    go_wp2_with fail
    go_roundw
    case rel=>exact⟨k+1,by omega,by go_num,HP.out,HXr.out.trans hx2⟩
    case measure=>simp[intOf];omega
   ·rw[hp]at HC
    have HP:Hid (l.any p=true):=any_take HE.out hp
    clear hp
    go_wp2_with fail
    refine HC.out.mono ?_
    rintro _ w2 ⟨rfl,hx2⟩
    go_wp2_with fail
    go_ret
    exact⟨⟨k,⟨by omega,by omega⟩,rfl,by rw[HP.out];simp⟩,HXr.out.trans hx2⟩
  ·obtain rfl:k=n:=by omega
   have HP:Hid (l.any p=false):=any_end HL.out HRr.out
   clear hr
   go_wp2_with fail
   go_ret
   exact⟨⟨-1,⟨by omega,by omega⟩,rfl,by rw[HP.out];rfl⟩,HXr.out⟩
theorem cop_rf (F:FuncId) (hE:Ent F) (P:Value) (p:Rf→Bool) (l:List Rf) (A:Option Addr) (n c:Nat) (w:World) (hl:l.length=n) (hn:n≤9223372036854775807) (hk:RfsAt w A l)
  (hF:∀x∈l,∀(W:World),Ext w W→∀(A1:Option Addr) (n1 c1:Nat) (A2:Option Addr) (n2 c2:Nat),(x.tb.size≤9223372036854775807∧x.cs.length=n1∧n1≤9223372036854775807∧StrsAt W A1 x.cs∧x.tg.length=n2∧n2≤9223372036854775807∧StrsAt W A2 x.tg)→Calls Tryz.prog F #[.agg #[.slice A1 n1 c1,.string x.tb,.slice A2 n2 c2],P] W fun r W'=>r= .returned (.bool (p x))∧Ext W W'):
  Calls Tryz.prog 243 #[.slice A n c,.func (Fn.func F) #[] #[P]] w fun r w'=>r= .returned (.bool (l.any p))∧Ext w w':=by
 have HC:=hid (ixp_rf F hE P p l A n c w hl hn hk hF)
 clear hl hk hF
 go_enter Tryz.func243,Tryz.ntmps243
 go_wp2_with (go_at_call 270;refine HC.out.mono ?_;rintro _ w2 ⟨⟨x,hx,rfl,hx0⟩,hx2⟩;have HX0:=hid hx0;clear hx0)
 go_ret
 exact⟨ret_bool HX0.out,hx2⟩
theorem ixp_row (F:FuncId) (hE:Ent F) (P:Value) (p:(List Ex)→Bool) (l:List (List Ex)) (A:Option Addr) (n c:Nat) (w:World) (hl:l.length=n) (hn:n≤9223372036854775807) (hk:RowsAt w A l)
  (hF:∀x∈l,∀(W:World),Ext w W→∀(Ai:Option Addr) (ni ci:Nat),(x.length=ni∧KidsAt W Ai x)→Calls Tryz.prog F #[.slice Ai ni ci,P] W fun r W'=>r= .returned (.bool (p x))∧Ext W W'):
  Calls Tryz.prog 245 #[.slice A n c,.func (Fn.func F) #[] #[P]] w fun r w'=>IdxOf (l.any p) r∧Ext w w':=by
 unfold Ent at hE
 have HL:=hid hl
 have HK:=hid hk
 have HF:=hid hF
 clear hl hk hF
 go_enter Tryz.func245,Tryz.ntmps245
 go_wp2_with fail
 go_loopw [5,8] (fun _ iv wr=> ∃(k:Nat),k≤n∧iv= .int .i64 k∧(l.take k).any p=false∧Ext w wr) (fun _ i _=>n- (intOf i).toNat)
 case atStart=>exact⟨0,Nat.zero_le _,rfl,rfl,Ext.refl w⟩
 case round=>
  obtain⟨k,hkn,rfl,hr,hxr⟩:=hrel
  have HXr:=hid hxr
  have HRr:=hid hr
  by_cases hlt:k<n
  ·obtain⟨x,hx⟩:=rat_lt HL.out hlt
   obtain⟨b,off,Ai,ni,ci,rfl,q0,h1,h2⟩:=(HK.out.ext hxr) k x hx
   have HC:=hid (HF.out x (List.mem_of_getElem? hx) _ hxr Ai ni ci ⟨h1,h2⟩)
   have HE:=hid hx
   clear hx hxr hr
   cases hp:p x
   ·rw[hp]at HC
    have HP:Hid ((l.take (k+1)).any p=false):=any_step HE.out HRr.out hp
    clear hp
    go_wp2_with fail
    refine HC.out.mono ?_
    rintro _ w2 ⟨rfl,hx2⟩
    go_wp2_with fail
    go_roundw
    case rel=>exact⟨k+1,by omega,by go_num,HP.out,HXr.out.trans hx2⟩
    case measure=>simp[intOf];omega
   ·rw[hp]at HC
    have HP:Hid (l.any p=true):=any_take HE.out hp
    clear hp
    go_wp2_with fail
    refine HC.out.mono ?_
    rintro _ w2 ⟨rfl,hx2⟩
    go_wp2_with fail
    go_ret
    exact⟨⟨k,⟨by omega,by omega⟩,rfl,by rw[HP.out];simp⟩,HXr.out.trans hx2⟩
  ·obtain rfl:k=n:=by omega
   have HP:Hid (l.any p=false):=any_end HL.out HRr.out
   clear hr
   go_wp2_with fail
   go_ret
   exact⟨⟨-1,⟨by omega,by omega⟩,rfl,by rw[HP.out];rfl⟩,HXr.out⟩
theorem cop_row (F:FuncId) (hE:Ent F) (P:Value) (p:(List Ex)→Bool) (l:List (List Ex)) (A:Option Addr) (n c:Nat) (w:World) (hl:l.length=n) (hn:n≤9223372036854775807) (hk:RowsAt w A l)
  (hF:∀x∈l,∀(W:World),Ext w W→∀(Ai:Option Addr) (ni ci:Nat),(x.length=ni∧KidsAt W Ai x)→Calls Tryz.prog F #[.slice Ai ni ci,P] W fun r W'=>r= .returned (.bool (p x))∧Ext W W'):
  Calls Tryz.prog 189 #[.slice A n c,.func (Fn.func F) #[] #[P]] w fun r w'=>r= .returned (.bool (l.any p))∧Ext w w':=by
 have HC:=hid (ixp_row F hE P p l A n c w hl hn hk hF)
 clear hl hk hF
 go_enter Tryz.func189,Tryz.ntmps189
 go_wp2_with (go_at_call 245;refine HC.out.mono ?_;rintro _ w2 ⟨⟨x,hx,rfl,hx0⟩,hx2⟩;have HX0:=hid hx0;clear hx0)
 go_ret
 exact⟨ret_bool HX0.out,hx2⟩
theorem ixp_asg (F:FuncId) (hE:Ent F) (P:Value) (p:Asg→Bool) (l:List Asg) (A:Option Addr) (n c:Nat) (w:World) (hl:l.length=n) (hn:n≤9223372036854775807) (hk:AsgsAt w A l)
  (hF:∀x∈l,∀(W:World),Ext w W→∀(Ai:Option Addr) (ni ci:Nat),ExV W x.ex Ai ni ci→Calls Tryz.prog F #[.agg #[.string x.cl,.int .i64 x.ix,.int .i64 x.ex.d.op,.string x.ex.d.tb,.string x.ex.d.nm,.int .i64 x.ex.d.ix,.int .i64 x.ex.d.vk,.int .i64 x.ex.d.vi,.string x.ex.d.vt,.slice Ai ni ci],P] W fun r W'=>r= .returned (.bool (p x))∧Ext W W'):
  Calls Tryz.prog 246 #[.slice A n c,.func (Fn.func F) #[] #[P]] w fun r w'=>IdxOf (l.any p) r∧Ext w w':=by
 unfold Ent at hE
 have HL:=hid hl
 have HK:=hid hk
 have HF:=hid hF
 clear hl hk hF
 go_enter Tryz.func246,Tryz.ntmps246
 go_wp2_with fail
 go_loopw [5,8] (fun _ iv wr=> ∃(k:Nat),k≤n∧iv= .int .i64 k∧(l.take k).any p=false∧Ext w wr) (fun _ i _=>n- (intOf i).toNat)
 case atStart=>exact⟨0,Nat.zero_le _,rfl,rfl,Ext.refl w⟩
 case round=>
  obtain⟨k,hkn,rfl,hr,hxr⟩:=hrel
  have HXr:=hid hxr
  have HRr:=hid hr
  by_cases hlt:k<n
  ·obtain⟨x,hx⟩:=rat_lt HL.out hlt
   obtain⟨b,off,Ai,ni,ci,rfl,q0,q1,q2,q3,q4,q5,q6,q7,q8,q9,h1⟩:=asg_get (HK.out.ext hxr) hx
   have HC:=hid (HF.out x (List.mem_of_getElem? hx) _ hxr Ai ni ci h1)
   have HE:=hid hx
   clear hx hxr hr
   cases hp:p x
   ·rw[hp]at HC
    have HP:Hid ((l.take (k+1)).any p=false):=any_step HE.out HRr.out hp
    clear hp
    go_wp2_with fail
    refine HC.out.mono ?_
    rintro _ w2 ⟨rfl,hx2⟩
    go_wp2_with fail
    go_roundw
    case rel=>exact⟨k+1,by omega,by go_num,HP.out,HXr.out.trans hx2⟩
    case measure=>simp[intOf];omega
   ·rw[hp]at HC
    have HP:Hid (l.any p=true):=any_take HE.out hp
    clear hp
    go_wp2_with fail
    refine HC.out.mono ?_
    rintro _ w2 ⟨rfl,hx2⟩
    go_wp2_with fail
    go_ret
    exact⟨⟨k,⟨by omega,by omega⟩,rfl,by rw[HP.out];simp⟩,HXr.out.trans hx2⟩
  ·obtain rfl:k=n:=by omega
   have HP:Hid (l.any p=false):=any_end HL.out HRr.out
   clear hr
   go_wp2_with fail
   go_ret
   exact⟨⟨-1,⟨by omega,by omega⟩,rfl,by rw[HP.out];rfl⟩,HXr.out⟩
theorem cop_asg (F:FuncId) (hE:Ent F) (P:Value) (p:Asg→Bool) (l:List Asg) (A:Option Addr) (n c:Nat) (w:World) (hl:l.length=n) (hn:n≤9223372036854775807) (hk:AsgsAt w A l)
  (hF:∀x∈l,∀(W:World),Ext w W→∀(Ai:Option Addr) (ni ci:Nat),ExV W x.ex Ai ni ci→Calls Tryz.prog F #[.agg #[.string x.cl,.int .i64 x.ix,.int .i64 x.ex.d.op,.string x.ex.d.tb,.string x.ex.d.nm,.int .i64 x.ex.d.ix,.int .i64 x.ex.d.vk,.int .i64 x.ex.d.vi,.string x.ex.d.vt,.slice Ai ni ci],P] W fun r W'=>r= .returned (.bool (p x))∧Ext W W'):
  Calls Tryz.prog 192 #[.slice A n c,.func (Fn.func F) #[] #[P]] w fun r w'=>r= .returned (.bool (l.any p))∧Ext w w':=by
 have HC:=hid (ixp_asg F hE P p l A n c w hl hn hk hF)
 clear hl hk hF
 go_enter Tryz.func192,Tryz.ntmps192
 go_wp2_with (go_at_call 246;refine HC.out.mono ?_;rintro _ w2 ⟨⟨x,hx,rfl,hx0⟩,hx2⟩;have HX0:=hid hx0;clear hx0)
 go_ret
 exact⟨ret_bool HX0.out,hx2⟩
theorem ixp_itm (F:FuncId) (hE:Ent F) (P:Value) (p:Itm→Bool) (l:List Itm) (A:Option Addr) (n c:Nat) (w:World) (hl:l.length=n) (hn:n≤9223372036854775807) (hk:ItmsAt w A l)
  (hF:∀x∈l,∀(W:World),Ext w W→∀(Ai:Option Addr) (ni ci:Nat),ExV W x.ex Ai ni ci→Calls Tryz.prog F #[.agg #[.int .i64 x.ag,.int .i64 x.ex.d.op,.string x.ex.d.tb,.string x.ex.d.nm,.int .i64 x.ex.d.ix,.int .i64 x.ex.d.vk,.int .i64 x.ex.d.vi,.string x.ex.d.vt,.slice Ai ni ci],P] W fun r W'=>r= .returned (.bool (p x))∧Ext W W'):
  Calls Tryz.prog 271 #[.slice A n c,.func (Fn.func F) #[] #[P]] w fun r w'=>IdxOf (l.any p) r∧Ext w w':=by
 unfold Ent at hE
 have HL:=hid hl
 have HK:=hid hk
 have HF:=hid hF
 clear hl hk hF
 go_enter Tryz.func271,Tryz.ntmps271
 go_wp2_with fail
 go_loopw [5,8] (fun _ iv wr=> ∃(k:Nat),k≤n∧iv= .int .i64 k∧(l.take k).any p=false∧Ext w wr) (fun _ i _=>n- (intOf i).toNat)
 case atStart=>exact⟨0,Nat.zero_le _,rfl,rfl,Ext.refl w⟩
 case round=>
  obtain⟨k,hkn,rfl,hr,hxr⟩:=hrel
  have HXr:=hid hxr
  have HRr:=hid hr
  by_cases hlt:k<n
  ·obtain⟨x,hx⟩:=rat_lt HL.out hlt
   obtain⟨b,off,Ai,ni,ci,rfl,q0,q1,q2,q3,q4,q5,q6,q7,q8,h1⟩:=itm_get (HK.out.ext hxr) hx
   have HC:=hid (HF.out x (List.mem_of_getElem? hx) _ hxr Ai ni ci h1)
   have HE:=hid hx
   clear hx hxr hr
   cases hp:p x
   ·rw[hp]at HC
    have HP:Hid ((l.take (k+1)).any p=false):=any_step HE.out HRr.out hp
    clear hp
    go_wp2_with fail
    refine HC.out.mono ?_
    rintro _ w2 ⟨rfl,hx2⟩
    go_wp2_with fail
    go_roundw
    case rel=>exact⟨k+1,by omega,by go_num,HP.out,HXr.out.trans hx2⟩
    case measure=>simp[intOf];omega
   ·rw[hp]at HC
    have HP:Hid (l.any p=true):=any_take HE.out hp
    clear hp
    go_wp2_with fail
    refine HC.out.mono ?_
    rintro _ w2 ⟨rfl,hx2⟩
    go_wp2_with fail
    go_ret
    exact⟨⟨k,⟨by omega,by omega⟩,rfl,by rw[HP.out];simp⟩,HXr.out.trans hx2⟩
  ·obtain rfl:k=n:=by omega
   have HP:Hid (l.any p=false):=any_end HL.out HRr.out
   clear hr
   go_wp2_with fail
   go_ret
   exact⟨⟨-1,⟨by omega,by omega⟩,rfl,by rw[HP.out];rfl⟩,HXr.out⟩
theorem cop_itm (F:FuncId) (hE:Ent F) (P:Value) (p:Itm→Bool) (l:List Itm) (A:Option Addr) (n c:Nat) (w:World) (hl:l.length=n) (hn:n≤9223372036854775807) (hk:ItmsAt w A l)
  (hF:∀x∈l,∀(W:World),Ext w W→∀(Ai:Option Addr) (ni ci:Nat),ExV W x.ex Ai ni ci→Calls Tryz.prog F #[.agg #[.int .i64 x.ag,.int .i64 x.ex.d.op,.string x.ex.d.tb,.string x.ex.d.nm,.int .i64 x.ex.d.ix,.int .i64 x.ex.d.vk,.int .i64 x.ex.d.vi,.string x.ex.d.vt,.slice Ai ni ci],P] W fun r W'=>r= .returned (.bool (p x))∧Ext W W'):
  Calls Tryz.prog 247 #[.slice A n c,.func (Fn.func F) #[] #[P]] w fun r w'=>r= .returned (.bool (l.any p))∧Ext w w':=by
 have HC:=hid (ixp_itm F hE P p l A n c w hl hn hk hF)
 clear hl hk hF
 go_enter Tryz.func247,Tryz.ntmps247
 go_wp2_with (go_at_call 271;refine HC.out.mono ?_;rintro _ w2 ⟨⟨x,hx,rfl,hx0⟩,hx2⟩;have HX0:=hid hx0;clear hx0)
 go_ret
 exact⟨ret_bool HX0.out,hx2⟩
theorem ixp_src (F:FuncId) (hE:Ent F) (P:Value) (p:Src→Bool) (l:List Src) (A:Option Addr) (n c:Nat) (w:World) (hl:l.length=n) (hn:n≤9223372036854775807) (hk:SrcsAt w A l)
  (hF:∀x∈l,∀(W:World),Ext w W→(x.tb.size≤9223372036854775807∧x.al.size≤9223372036854775807)→Calls Tryz.prog F #[.agg #[.string x.tb,.string x.al],P] W fun r W'=>r= .returned (.bool (p x))∧Ext W W'):
  Calls Tryz.prog 272 #[.slice A n c,.func (Fn.func F) #[] #[P]] w fun r w'=>IdxOf (l.any p) r∧Ext w w':=by
 unfold Ent at hE
 have HL:=hid hl
 have HK:=hid hk
 have HF:=hid hF
 clear hl hk hF
 go_enter Tryz.func272,Tryz.ntmps272
 go_wp2_with fail
 go_loopw [5,8] (fun _ iv wr=> ∃(k:Nat),k≤n∧iv= .int .i64 k∧(l.take k).any p=false∧Ext w wr) (fun _ i _=>n- (intOf i).toNat)
 case atStart=>exact⟨0,Nat.zero_le _,rfl,rfl,Ext.refl w⟩
 case round=>
  obtain⟨k,hkn,rfl,hr,hxr⟩:=hrel
  have HXr:=hid hxr
  have HRr:=hid hr
  by_cases hlt:k<n
  ·obtain⟨x,hx⟩:=rat_lt HL.out hlt
   obtain⟨hc,b,off,rfl,q0,q1⟩:=(HK.out.ext hxr) k x hx
   have HC:=hid (HF.out x (List.mem_of_getElem? hx) _ hxr hc)
   have HE:=hid hx
   clear hx hxr hr
   cases hp:p x
   ·rw[hp]at HC
    have HP:Hid ((l.take (k+1)).any p=false):=any_step HE.out HRr.out hp
    clear hp
    go_wp2_with fail
    refine HC.out.mono ?_
    rintro _ w2 ⟨rfl,hx2⟩
    go_wp2_with fail
    go_roundw
    case rel=>exact⟨k+1,by omega,by go_num,HP.out,HXr.out.trans hx2⟩
    case measure=>simp[intOf];omega
   ·rw[hp]at HC
    have HP:Hid (l.any p=true):=any_take HE.out hp
    clear hp
    go_wp2_with fail
    refine HC.out.mono ?_
    rintro _ w2 ⟨rfl,hx2⟩
    go_wp2_with fail
    go_ret
    exact⟨⟨k,⟨by omega,by omega⟩,rfl,by rw[HP.out];simp⟩,HXr.out.trans hx2⟩
  ·obtain rfl:k=n:=by omega
   have HP:Hid (l.any p=false):=any_end HL.out HRr.out
   clear hr
   go_wp2_with fail
   go_ret
   exact⟨⟨-1,⟨by omega,by omega⟩,rfl,by rw[HP.out];rfl⟩,HXr.out⟩
theorem cop_src (F:FuncId) (hE:Ent F) (P:Value) (p:Src→Bool) (l:List Src) (A:Option Addr) (n c:Nat) (w:World) (hl:l.length=n) (hn:n≤9223372036854775807) (hk:SrcsAt w A l)
  (hF:∀x∈l,∀(W:World),Ext w W→(x.tb.size≤9223372036854775807∧x.al.size≤9223372036854775807)→Calls Tryz.prog F #[.agg #[.string x.tb,.string x.al],P] W fun r W'=>r= .returned (.bool (p x))∧Ext W W'):
  Calls Tryz.prog 249 #[.slice A n c,.func (Fn.func F) #[] #[P]] w fun r w'=>r= .returned (.bool (l.any p))∧Ext w w':=by
 have HC:=hid (ixp_src F hE P p l A n c w hl hn hk hF)
 clear hl hk hF
 go_enter Tryz.func249,Tryz.ntmps249
 go_wp2_with (go_at_call 272;refine HC.out.mono ?_;rintro _ w2 ⟨⟨x,hx,rfl,hx0⟩,hx2⟩;have HX0:=hid hx0;clear hx0)
 go_ret
 exact⟨ret_bool HX0.out,hx2⟩
theorem ixp_ord (F:FuncId) (hE:Ent F) (P:Value) (p:Ord'→Bool) (l:List Ord') (A:Option Addr) (n c:Nat) (w:World) (hl:l.length=n) (hn:n≤9223372036854775807) (hk:OrdsAt w A l)
  (hF:∀x∈l,∀(W:World),Ext w W→I64 x.it→Calls Tryz.prog F #[.agg #[.int .i64 x.it,.bool x.ds],P] W fun r W'=>r= .returned (.bool (p x))∧Ext W W'):
  Calls Tryz.prog 273 #[.slice A n c,.func (Fn.func F) #[] #[P]] w fun r w'=>IdxOf (l.any p) r∧Ext w w':=by
 unfold Ent at hE
 have HL:=hid hl
 have HK:=hid hk
 have HF:=hid hF
 clear hl hk hF
 go_enter Tryz.func273,Tryz.ntmps273
 go_wp2_with fail
 go_loopw [5,8] (fun _ iv wr=> ∃(k:Nat),k≤n∧iv= .int .i64 k∧(l.take k).any p=false∧Ext w wr) (fun _ i _=>n- (intOf i).toNat)
 case atStart=>exact⟨0,Nat.zero_le _,rfl,rfl,Ext.refl w⟩
 case round=>
  obtain⟨k,hkn,rfl,hr,hxr⟩:=hrel
  have HXr:=hid hxr
  have HRr:=hid hr
  by_cases hlt:k<n
  ·obtain⟨x,hx⟩:=rat_lt HL.out hlt
   obtain⟨hc,b,off,rfl,q0,q1⟩:=(HK.out.ext hxr) k x hx
   have HC:=hid (HF.out x (List.mem_of_getElem? hx) _ hxr hc)
   have HE:=hid hx
   clear hx hxr hr
   cases hp:p x
   ·rw[hp]at HC
    have HP:Hid ((l.take (k+1)).any p=false):=any_step HE.out HRr.out hp
    clear hp
    go_wp2_with fail
    refine HC.out.mono ?_
    rintro _ w2 ⟨rfl,hx2⟩
    go_wp2_with fail
    go_roundw
    case rel=>exact⟨k+1,by omega,by go_num,HP.out,HXr.out.trans hx2⟩
    case measure=>simp[intOf];omega
   ·rw[hp]at HC
    have HP:Hid (l.any p=true):=any_take HE.out hp
    clear hp
    go_wp2_with fail
    refine HC.out.mono ?_
    rintro _ w2 ⟨rfl,hx2⟩
    go_wp2_with fail
    go_ret
    exact⟨⟨k,⟨by omega,by omega⟩,rfl,by rw[HP.out];simp⟩,HXr.out.trans hx2⟩
  ·obtain rfl:k=n:=by omega
   have HP:Hid (l.any p=false):=any_end HL.out HRr.out
   clear hr
   go_wp2_with fail
   go_ret
   exact⟨⟨-1,⟨by omega,by omega⟩,rfl,by rw[HP.out];rfl⟩,HXr.out⟩
theorem cop_ord (F:FuncId) (hE:Ent F) (P:Value) (p:Ord'→Bool) (l:List Ord') (A:Option Addr) (n c:Nat) (w:World) (hl:l.length=n) (hn:n≤9223372036854775807) (hk:OrdsAt w A l)
  (hF:∀x∈l,∀(W:World),Ext w W→I64 x.it→Calls Tryz.prog F #[.agg #[.int .i64 x.it,.bool x.ds],P] W fun r W'=>r= .returned (.bool (p x))∧Ext W W'):
  Calls Tryz.prog 251 #[.slice A n c,.func (Fn.func F) #[] #[P]] w fun r w'=>r= .returned (.bool (l.any p))∧Ext w w':=by
 have HC:=hid (ixp_ord F hE P p l A n c w hl hn hk hF)
 clear hl hk hF
 go_enter Tryz.func251,Tryz.ntmps251
 go_wp2_with (go_at_call 273;refine HC.out.mono ?_;rintro _ w2 ⟨⟨x,hx,rfl,hx0⟩,hx2⟩;have HX0:=hid hx0;clear hx0)
 go_ret
 exact⟨ret_bool HX0.out,hx2⟩
theorem ixp_ex (F:FuncId) (hE:Ent F) (P:Value) (p:Ex→Bool) (l:List Ex) (A:Option Addr) (n c:Nat) (w:World) (hl:l.length=n) (hn:n≤9223372036854775807) (hk:KidsAt w A l)
  (hF:∀x∈l,∀(W:World),Ext w W→∀(Ai:Option Addr) (ni ci:Nat),ExV W x Ai ni ci→Calls Tryz.prog F #[x.d.val Ai ni ci,P] W fun r W'=>r= .returned (.bool (p x))∧Ext W W'):
  Calls Tryz.prog 179 #[.slice A n c,.func (Fn.func F) #[] #[P]] w fun r w'=>IdxOf (l.any p) r∧Ext w w':=by
 unfold Ent at hE
 have HL:=hid hl
 have HK:=hid hk
 have HF:=hid hF
 clear hl hk hF
 go_enter Tryz.func179,Tryz.ntmps179
 go_wp2_with fail
 go_loopw [5,8] (fun _ iv wr=> ∃(k:Nat),k≤n∧iv= .int .i64 k∧(l.take k).any p=false∧Ext w wr) (fun _ i _=>n- (intOf i).toNat)
 case atStart=>exact⟨0,Nat.zero_le _,rfl,rfl,Ext.refl w⟩
 case round=>
  obtain⟨k,hkn,rfl,hr,hxr⟩:=hrel
  have HXr:=hid hxr
  have HRr:=hid hr
  by_cases hlt:k<n
  ·obtain⟨x,hx⟩:=rat_lt HL.out hlt
   obtain⟨b,off,Ai,ni,ci,rfl,q0,q1,q2,q3,q4,q5,q6,q7,h1⟩:=(HK.out.ext hxr).get hx
   have HC:=hid (HF.out x (List.mem_of_getElem? hx) _ hxr Ai ni ci h1)
   have HE:=hid hx
   clear hx hxr hr
   cases hp:p x
   ·rw[hp]at HC
    have HP:Hid ((l.take (k+1)).any p=false):=any_step HE.out HRr.out hp
    clear hp
    unfold Nd.val at HC
    go_wp2_with fail
    refine HC.out.mono ?_
    rintro _ w2 ⟨rfl,hx2⟩
    go_wp2_with fail
    go_roundw
    case rel=>exact⟨k+1,by omega,by go_num,HP.out,HXr.out.trans hx2⟩
    case measure=>simp[intOf];omega
   ·rw[hp]at HC
    have HP:Hid (l.any p=true):=any_take HE.out hp
    clear hp
    unfold Nd.val at HC
    go_wp2_with fail
    refine HC.out.mono ?_
    rintro _ w2 ⟨rfl,hx2⟩
    go_wp2_with fail
    go_ret
    exact⟨⟨k,⟨by omega,by omega⟩,rfl,by rw[HP.out];simp⟩,HXr.out.trans hx2⟩
  ·obtain rfl:k=n:=by omega
   have HP:Hid (l.any p=false):=any_end HL.out HRr.out
   clear hr
   go_wp2_with fail
   go_ret
   exact⟨⟨-1,⟨by omega,by omega⟩,rfl,by rw[HP.out];rfl⟩,HXr.out⟩
theorem cop_ex (F:FuncId) (hE:Ent F) (P:Value) (p:Ex→Bool) (l:List Ex) (A:Option Addr) (n c:Nat) (w:World) (hl:l.length=n) (hn:n≤9223372036854775807) (hk:KidsAt w A l)
  (hF:∀x∈l,∀(W:World),Ext w W→∀(Ai:Option Addr) (ni ci:Nat),ExV W x Ai ni ci→Calls Tryz.prog F #[x.d.val Ai ni ci,P] W fun r W'=>r= .returned (.bool (p x))∧Ext W W'):
  Calls Tryz.prog 111 #[.slice A n c,.func (Fn.func F) #[] #[P]] w fun r w'=>r= .returned (.bool (l.any p))∧Ext w w':=by
 have HC:=hid (ixp_ex F hE P p l A n c w hl hn hk hF)
 clear hl hk hF
 go_enter Tryz.func111,Tryz.ntmps111
 go_wp2_with (go_at_call 179;refine HC.out.mono ?_;rintro _ w2 ⟨⟨x,hx,rfl,hx0⟩,hx2⟩;have HX0:=hid hx0;clear hx0)
 go_ret
 exact⟨ret_bool HX0.out,hx2⟩
theorem takeA {α:Type} {l:List α} {i:Nat} {e:α} (h:l[i]? =some e):l.take (i+1)=l.take i++ [e]:=by
 obtain⟨hi,rfl⟩:=List.getElem?_eq_some_iff.1 h
 rw[List.take_succ_eq_append_getElem hi]
theorem reads_new1 (w:World) (v:Value) (e:TypeId):Reads (w.alloc (.cells #[v] e)) (w.heap.size+1) 1 (some ⟨w.heap.size,0,none⟩) 1 [v]:=
 ⟨by simp,fun _=>⟨_,rfl,Nat.lt_succ_self _,news_at w #[v] e w.heap.size rfl⟩⟩
theorem own_atN {w:World} {B e sz n:Nat} {v:Value} {xs:List Value} (h:w.ownsRow B e sz v n xs):∀q,v.ownBlock=some q→B≤q:=fun q hq=> (h.lt q hq).1
theorem info_str:(Tryz.prog.info? 9).map (fun i=> (i.zero,i.size,i.bytes))=some (some (.string ⟨#[]⟩),1,16):=by kernel_rfl
def strV (l:List ByteArray):List Value:=l.map Value.string
theorem strV_get {l:List ByteArray} {i:Nat} {s:ByteArray} (h:l[i]? =some s):(strV l)[i]? =some (.string s):=by unfold strV;rw[List.getElem?_map,h];rfl
theorem own_strs {w:World} {B n:Nat} {v:Value} {l:List ByteArray} (h:w.ownsRow B 9 1 v n (strV l)) (hm:∀s∈l,s.size≤9223372036854775807):∃A c,v= .slice A n c∧StrsAt w A l∧l.length=n:=by
 have hl:l.length=n:=by have:=h.1;simpa[strV] using this
 rcases h.2 with ⟨rfl,hx⟩|⟨g,cap,cur,rfl,hb,hg,hrest⟩
 ·refine⟨none,0,?_,?_,hl⟩
  ·have:l= []:=List.eq_nil_of_length_eq_zero (by simpa[hl] using hx)
   subst this;subst hl;rfl
  ·intro i s hs
   have:l= []:=List.eq_nil_of_length_eq_zero (by simpa[hl] using hx)
   subst this;cases hs
 ·refine⟨_,_,rfl,fun i s hs=>⟨hm s (List.mem_of_getElem? hs),g,0,rfl,?_⟩,hl⟩
  have hi:i<l.length:=(List.getElem?_eq_some_iff.1 hs).1
  have:=h.cellAt i (by omega)
  rw[Nat.zero_add,this,strV_get hs]
theorem com_list:comS.data.toList= [44,32]:=rfl
theorem cma_join (x:ByteArray) (l:List ByteArray):(⟨(Lib.join ((x::l).map (·.data.toList)) comS.data.toList).toArray⟩:ByteArray)=cma (x::l):=by
 have h:=join_tail l x
 apply t_inj
 show _=(l.foldl _ x).data.toList
 rw[h,com_list]
 show Lib.join (x.data.toList::l.map (·.data.toList)) [44,32]=_
 rw[Lib.join_cons]
theorem join_at (l:List ByteArray) (A:Option Addr) (n c:Nat) (w:World) (hl:l.length=n) (hc:n≤c) (hk:StrsAt w A l) (hz:sumS l≤1000000000):
  Calls Tryz.prog 203 #[.slice A n c,.string ⟨#[44,32]⟩] w fun r w'=>r= .returned (.string (cma l))∧Ext w w':=by
 cases l with
 |nil=>
  subst hl
  exact(Tryz.strings_Join_none A c ⟨#[44,32]⟩ w).mono fun r w' ⟨h1,h2⟩=>⟨h1,h2 ▸ Ext.refl w⟩
 |cons x l=>
  obtain⟨_,b,off,rfl,h0⟩:=hk 0 x rfl
  have hcells:∀(j:Nat) y,(x::l)[j]? =some y→w.cell? ⟨b,off+j,none⟩=some (.string y):=fun j y hy=>by
   obtain⟨_,b',off',hA,h1⟩:=hk j y hy
   simp only[Option.some.injEq,Addr.mk.injEq,and_true]at hA
   obtain⟨rfl,rfl⟩:=hA
   exact h1
  have hs:=sumS_len (x::l)
  have hj:=cma_join x l
  have hz2:=cma_size (x::l)
  have hlen:(Lib.join ((x::l).map (·.data.toList)) comS.data.toList).length=(cma (x::l)).size:=by
   rw[←hj];show _=((Lib.join _ _).toArray).size;simp
  subst hl
  refine(Tryz.strings_Join b off c (x::l) comS w hcells (cell_lt h0) (by omega) hc (by rw[hlen];omega)).mono fun r w' ⟨h1,h2⟩=>⟨?_,h2⟩
  rw[h1,hj]
theorem own_cap {w:World} {B e sz n:Nat} {A:Option Addr} {m c:Nat} {xs:List Value} (h:w.ownsRow B e sz (.slice A m c) n xs):n≤c:=by
 rcases h.2 with ⟨h1,hx⟩|⟨g,cap,cur,h1,hb,hg,hrest⟩
 ·simp only[Value.slice.injEq]at h1;omega
 ·simp only[Value.slice.injEq]at h1;obtain⟨_,_,rfl⟩:=h1;exact hrest.1
theorem join_own (l:List ByteArray) (v:Value) (B n:Nat) (w:World) (h:w.ownsRow B 9 1 v n (strV l)) (hz:sumS l≤1000000000):
  Calls Tryz.prog 203 #[v,.string ⟨#[44,32]⟩] w fun r w'=>r= .returned (.string (cma l))∧Ext w w':=by
 obtain⟨A,c,rfl,hk,hl⟩:=own_strs h fun s hs=>by have:=sumS_mem hs;omega
 exact join_at l A n c w hl (own_cap h) hk hz
theorem ls_ex (F:FuncId) (hE:Ent F) (p:Ex→ByteArray) (l:List Ex) (A:Option Addr) (n c:Nat) (w:World) (hl:l.length=n) (hn:n≤100000000) (hk:KidsAt w A l) (hz:sumS (l.map p)≤1000000000)
  (hF:∀x∈l,∀(W:World),Ext w W→∀(Ai:Option Addr) (ni ci:Nat),ExV W x Ai ni ci→Calls Tryz.prog F #[x.d.val Ai ni ci] W fun r W'=>r= .returned (.string (p x))∧Ext W W'):
  Calls Tryz.prog 204 #[.slice A n c,.func (Fn.func F) #[] #[]] w fun r w'=>r= .returned (.string (cma (l.map p)))∧Ext w w':=by
 unfold Ent at hE
 obtain⟨i0,hi,hz0,hz1,hz2⟩:=info_parts info_str
 have HL:=hid hl
 have HK:=hid hk
 have HF:=hid hF
 have HZ:=hid hz
 clear hl hk hF hz
 go_enter Tryz.func204,Tryz.ntmps204
 go_wp2_with fail
 go_loopw [5,10] (fun nv iv wr=> ∃(k:Nat),k≤n∧iv= .int .i64 k∧wr.ownsRow w.heap.size 9 1 nv k (strV ((l.take k).map p))∧Ext w wr) (fun _ i _=>n- (intOf i).toNat)
 case atStart=>exact⟨0,Nat.zero_le _,rfl,World.ownsRow_nil _ _ _ _,Ext.refl w⟩
 case round=>
  obtain⟨k,hkn,rfl,hown,hxr⟩:=hrel
  have HO:=hid hown
  have HXr:=hid hxr
  clear hown
  by_cases hlt:k<n
  ·obtain⟨x,hx⟩:=rat_lt HL.out hlt
   obtain⟨b,off,Ai,ni,ci,rfl,q0,q1,q2,q3,q4,q5,q6,q7,h1⟩:=(HK.out.ext hxr).get hx
   have HC:=hid (fun W (hW:Ext wr W)=>HF.out x (List.mem_of_getElem? hx) W (hxr.trans hW) Ai ni ci (h1.ext hW))
   have HT:Hid ((l.take (k+1)).map p=(l.take k).map p++ [p x]):=by unfold Hid;rw[takeA hx,List.map_append];rfl
   clear hx hxr
   unfold Nd.val at HC
   go_wp2_with fail
   refine(HC.out _ ((Ext.refl wr).alloc _)).mono ?_
   rintro _ w2 ⟨rfl,hx2⟩
   have HX2:Hid (Ext wr w2):=((Ext.refl wr).alloc _).trans hx2
   clear hx2
   have HO1:=hid ((ownN_ext HO.out HX2.out).alloc (.cells #[.string (p x)] 9))
   have HRd:=hid (reads_new1 w2 (.string (p x)) 9)
   go_wp2_with (at_builtin;refine wpList_append_any _ rfl (.tmp 14) (.tmp 18) 101 rfl w.heap.size 9 i0 _ 1 16 Tryz.underlying101 hi hz0 hz1 hz2 rfl (by decide) _ k _ rfl HO1.out _ _ 1 1 [.string (p x)] rfl HRd.out (by simp[Value.oneCell']) (by unfold maxLen;omega) (by omega) (Nat.le_trans (HXr.out.trans HX2.out).size (by simp)) ?_;intro v1 w5 hown5 hgr5 hblk5;have HO5:=hid hown5;have HG5:=hid hgr5;clear hown5 hgr5 hblk5)
   go_roundw
   case rel=>
    have hge:=own_atN HO.out
    refine⟨k+1,by omega,by go_num,?_,(((HXr.out.trans HX2.out).alloc _)).grown HG5.out fun q hq=>hge q hq⟩
    rw[HT.out]
    unfold strV
    rw[List.map_append]
    exact HO5.out
   case measure=>simp[intOf];omega
  ·obtain rfl:k=n:=by omega
   rw[List.take_of_length_le (Nat.le_of_eq HL.out)]at HO
   have HJ:=hid (join_own (l.map p) _ _ _ wr HO.out HZ.out)
   go_wp2_with (go_at_call 203;refine HJ.out.mono ?_;rintro _ w2 ⟨rfl,hx2⟩)
   go_ret
   exact⟨rfl,HXr.out.trans hx2⟩
theorem ls_row (F:FuncId) (hE:Ent F) (p:(List Ex)→ByteArray) (l:List (List Ex)) (A:Option Addr) (n c:Nat) (w:World) (hl:l.length=n) (hn:n≤100000000) (hk:RowsAt w A l) (hz:sumS (l.map p)≤1000000000)
  (hF:∀x∈l,∀(W:World),Ext w W→∀(Ai:Option Addr) (ni ci:Nat),(x.length=ni∧KidsAt W Ai x)→Calls Tryz.prog F #[.slice Ai ni ci] W fun r W'=>r= .returned (.string (p x))∧Ext W W'):
  Calls Tryz.prog 126 #[.slice A n c,.func (Fn.func F) #[] #[]] w fun r w'=>r= .returned (.string (cma (l.map p)))∧Ext w w':=by
 unfold Ent at hE
 obtain⟨i0,hi,hz0,hz1,hz2⟩:=info_parts info_str
 have HL:=hid hl
 have HK:=hid hk
 have HF:=hid hF
 have HZ:=hid hz
 clear hl hk hF hz
 go_enter Tryz.func126,Tryz.ntmps126
 go_wp2_with fail
 go_loopw [5,10] (fun nv iv wr=> ∃(k:Nat),k≤n∧iv= .int .i64 k∧wr.ownsRow w.heap.size 9 1 nv k (strV ((l.take k).map p))∧Ext w wr) (fun _ i _=>n- (intOf i).toNat)
 case atStart=>exact⟨0,Nat.zero_le _,rfl,World.ownsRow_nil _ _ _ _,Ext.refl w⟩
 case round=>
  obtain⟨k,hkn,rfl,hown,hxr⟩:=hrel
  have HO:=hid hown
  have HXr:=hid hxr
  clear hown
  by_cases hlt:k<n
  ·obtain⟨x,hx⟩:=rat_lt HL.out hlt
   obtain⟨b,off,Ai,ni,ci,rfl,q0,h1,h2⟩:=(HK.out.ext hxr) k x hx
   have HC:=hid (fun W (hW:Ext wr W)=>HF.out x (List.mem_of_getElem? hx) W (hxr.trans hW) Ai ni ci ⟨h1,h2.ext hW⟩)
   have HT:Hid ((l.take (k+1)).map p=(l.take k).map p++ [p x]):=by unfold Hid;rw[takeA hx,List.map_append];rfl
   clear hx hxr
   go_wp2_with fail
   refine(HC.out _ (Ext.refl wr)).mono ?_
   rintro _ w2 ⟨rfl,hx2⟩
   have HX2:Hid (Ext wr w2):=hx2
   clear hx2
   have HO1:=hid ((ownN_ext HO.out HX2.out).alloc (.cells #[.string (p x)] 9))
   have HRd:=hid (reads_new1 w2 (.string (p x)) 9)
   go_wp2_with (at_builtin;refine wpList_append_any _ rfl (.tmp 14) (.tmp 18) 101 rfl w.heap.size 9 i0 _ 1 16 Tryz.underlying101 hi hz0 hz1 hz2 rfl (by decide) _ k _ rfl HO1.out _ _ 1 1 [.string (p x)] rfl HRd.out (by simp[Value.oneCell']) (by unfold maxLen;omega) (by omega) (Nat.le_trans (HXr.out.trans HX2.out).size (by simp)) ?_;intro v1 w5 hown5 hgr5 hblk5;have HO5:=hid hown5;have HG5:=hid hgr5;clear hown5 hgr5 hblk5)
   go_roundw
   case rel=>
    have hge:=own_atN HO.out
    refine⟨k+1,by omega,by go_num,?_,(((HXr.out.trans HX2.out).alloc _)).grown HG5.out fun q hq=>hge q hq⟩
    rw[HT.out]
    unfold strV
    rw[List.map_append]
    exact HO5.out
   case measure=>simp[intOf];omega
  ·obtain rfl:k=n:=by omega
   rw[List.take_of_length_le (Nat.le_of_eq HL.out)]at HO
   have HJ:=hid (join_own (l.map p) _ _ _ wr HO.out HZ.out)
   go_wp2_with (go_at_call 203;refine HJ.out.mono ?_;rintro _ w2 ⟨rfl,hx2⟩)
   go_ret
   exact⟨rfl,HXr.out.trans hx2⟩
theorem ls_asg (F:FuncId) (hE:Ent F) (p:Asg→ByteArray) (l:List Asg) (A:Option Addr) (n c:Nat) (w:World) (hl:l.length=n) (hn:n≤100000000) (hk:AsgsAt w A l) (hz:sumS (l.map p)≤1000000000)
  (hF:∀x∈l,∀(W:World),Ext w W→∀(Ai:Option Addr) (ni ci:Nat),ExV W x.ex Ai ni ci→Calls Tryz.prog F #[.agg #[.string x.cl,.int .i64 x.ix,.int .i64 x.ex.d.op,.string x.ex.d.tb,.string x.ex.d.nm,.int .i64 x.ex.d.ix,.int .i64 x.ex.d.vk,.int .i64 x.ex.d.vi,.string x.ex.d.vt,.slice Ai ni ci]] W fun r W'=>r= .returned (.string (p x))∧Ext W W'):
  Calls Tryz.prog 129 #[.slice A n c,.func (Fn.func F) #[] #[]] w fun r w'=>r= .returned (.string (cma (l.map p)))∧Ext w w':=by
 unfold Ent at hE
 obtain⟨i0,hi,hz0,hz1,hz2⟩:=info_parts info_str
 have HL:=hid hl
 have HK:=hid hk
 have HF:=hid hF
 have HZ:=hid hz
 clear hl hk hF hz
 go_enter Tryz.func129,Tryz.ntmps129
 go_wp2_with fail
 go_loopw [5,10] (fun nv iv wr=> ∃(k:Nat),k≤n∧iv= .int .i64 k∧wr.ownsRow w.heap.size 9 1 nv k (strV ((l.take k).map p))∧Ext w wr) (fun _ i _=>n- (intOf i).toNat)
 case atStart=>exact⟨0,Nat.zero_le _,rfl,World.ownsRow_nil _ _ _ _,Ext.refl w⟩
 case round=>
  obtain⟨k,hkn,rfl,hown,hxr⟩:=hrel
  have HO:=hid hown
  have HXr:=hid hxr
  clear hown
  by_cases hlt:k<n
  ·obtain⟨x,hx⟩:=rat_lt HL.out hlt
   obtain⟨b,off,Ai,ni,ci,rfl,q0,q1,q2,q3,q4,q5,q6,q7,q8,q9,h1⟩:=asg_get (HK.out.ext hxr) hx
   have HC:=hid (fun W (hW:Ext wr W)=>HF.out x (List.mem_of_getElem? hx) W (hxr.trans hW) Ai ni ci (h1.ext hW))
   have HT:Hid ((l.take (k+1)).map p=(l.take k).map p++ [p x]):=by unfold Hid;rw[takeA hx,List.map_append];rfl
   clear hx hxr
   go_wp2_with fail
   refine(HC.out _ ((Ext.refl wr).alloc _)).mono ?_
   rintro _ w2 ⟨rfl,hx2⟩
   have HX2:Hid (Ext wr w2):=((Ext.refl wr).alloc _).trans hx2
   clear hx2
   have HO1:=hid ((ownN_ext HO.out HX2.out).alloc (.cells #[.string (p x)] 9))
   have HRd:=hid (reads_new1 w2 (.string (p x)) 9)
   go_wp2_with (at_builtin;refine wpList_append_any _ rfl (.tmp 14) (.tmp 18) 101 rfl w.heap.size 9 i0 _ 1 16 Tryz.underlying101 hi hz0 hz1 hz2 rfl (by decide) _ k _ rfl HO1.out _ _ 1 1 [.string (p x)] rfl HRd.out (by simp[Value.oneCell']) (by unfold maxLen;omega) (by omega) (Nat.le_trans (HXr.out.trans HX2.out).size (by simp)) ?_;intro v1 w5 hown5 hgr5 hblk5;have HO5:=hid hown5;have HG5:=hid hgr5;clear hown5 hgr5 hblk5)
   go_roundw
   case rel=>
    have hge:=own_atN HO.out
    refine⟨k+1,by omega,by go_num,?_,(((HXr.out.trans HX2.out).alloc _)).grown HG5.out fun q hq=>hge q hq⟩
    rw[HT.out]
    unfold strV
    rw[List.map_append]
    exact HO5.out
   case measure=>simp[intOf];omega
  ·obtain rfl:k=n:=by omega
   rw[List.take_of_length_le (Nat.le_of_eq HL.out)]at HO
   have HJ:=hid (join_own (l.map p) _ _ _ wr HO.out HZ.out)
   go_wp2_with (go_at_call 203;refine HJ.out.mono ?_;rintro _ w2 ⟨rfl,hx2⟩)
   go_ret
   exact⟨rfl,HXr.out.trans hx2⟩
theorem ls_itm (F:FuncId) (hE:Ent F) (p:Itm→ByteArray) (l:List Itm) (A:Option Addr) (n c:Nat) (w:World) (hl:l.length=n) (hn:n≤100000000) (hk:ItmsAt w A l) (hz:sumS (l.map p)≤1000000000)
  (hF:∀x∈l,∀(W:World),Ext w W→∀(Ai:Option Addr) (ni ci:Nat),ExV W x.ex Ai ni ci→Calls Tryz.prog F #[.agg #[.int .i64 x.ag,.int .i64 x.ex.d.op,.string x.ex.d.tb,.string x.ex.d.nm,.int .i64 x.ex.d.ix,.int .i64 x.ex.d.vk,.int .i64 x.ex.d.vi,.string x.ex.d.vt,.slice Ai ni ci]] W fun r W'=>r= .returned (.string (p x))∧Ext W W'):
  Calls Tryz.prog 208 #[.slice A n c,.func (Fn.func F) #[] #[]] w fun r w'=>r= .returned (.string (cma (l.map p)))∧Ext w w':=by
 unfold Ent at hE
 obtain⟨i0,hi,hz0,hz1,hz2⟩:=info_parts info_str
 have HL:=hid hl
 have HK:=hid hk
 have HF:=hid hF
 have HZ:=hid hz
 clear hl hk hF hz
 go_enter Tryz.func208,Tryz.ntmps208
 go_wp2_with fail
 go_loopw [5,10] (fun nv iv wr=> ∃(k:Nat),k≤n∧iv= .int .i64 k∧wr.ownsRow w.heap.size 9 1 nv k (strV ((l.take k).map p))∧Ext w wr) (fun _ i _=>n- (intOf i).toNat)
 case atStart=>exact⟨0,Nat.zero_le _,rfl,World.ownsRow_nil _ _ _ _,Ext.refl w⟩
 case round=>
  obtain⟨k,hkn,rfl,hown,hxr⟩:=hrel
  have HO:=hid hown
  have HXr:=hid hxr
  clear hown
  by_cases hlt:k<n
  ·obtain⟨x,hx⟩:=rat_lt HL.out hlt
   obtain⟨b,off,Ai,ni,ci,rfl,q0,q1,q2,q3,q4,q5,q6,q7,q8,h1⟩:=itm_get (HK.out.ext hxr) hx
   have HC:=hid (fun W (hW:Ext wr W)=>HF.out x (List.mem_of_getElem? hx) W (hxr.trans hW) Ai ni ci (h1.ext hW))
   have HT:Hid ((l.take (k+1)).map p=(l.take k).map p++ [p x]):=by unfold Hid;rw[takeA hx,List.map_append];rfl
   clear hx hxr
   go_wp2_with fail
   refine(HC.out _ ((Ext.refl wr).alloc _)).mono ?_
   rintro _ w2 ⟨rfl,hx2⟩
   have HX2:Hid (Ext wr w2):=((Ext.refl wr).alloc _).trans hx2
   clear hx2
   have HO1:=hid ((ownN_ext HO.out HX2.out).alloc (.cells #[.string (p x)] 9))
   have HRd:=hid (reads_new1 w2 (.string (p x)) 9)
   go_wp2_with (at_builtin;refine wpList_append_any _ rfl (.tmp 14) (.tmp 18) 101 rfl w.heap.size 9 i0 _ 1 16 Tryz.underlying101 hi hz0 hz1 hz2 rfl (by decide) _ k _ rfl HO1.out _ _ 1 1 [.string (p x)] rfl HRd.out (by simp[Value.oneCell']) (by unfold maxLen;omega) (by omega) (Nat.le_trans (HXr.out.trans HX2.out).size (by simp)) ?_;intro v1 w5 hown5 hgr5 hblk5;have HO5:=hid hown5;have HG5:=hid hgr5;clear hown5 hgr5 hblk5)
   go_roundw
   case rel=>
    have hge:=own_atN HO.out
    refine⟨k+1,by omega,by go_num,?_,(((HXr.out.trans HX2.out).alloc _)).grown HG5.out fun q hq=>hge q hq⟩
    rw[HT.out]
    unfold strV
    rw[List.map_append]
    exact HO5.out
   case measure=>simp[intOf];omega
  ·obtain rfl:k=n:=by omega
   rw[List.take_of_length_le (Nat.le_of_eq HL.out)]at HO
   have HJ:=hid (join_own (l.map p) _ _ _ wr HO.out HZ.out)
   go_wp2_with (go_at_call 203;refine HJ.out.mono ?_;rintro _ w2 ⟨rfl,hx2⟩)
   go_ret
   exact⟨rfl,HXr.out.trans hx2⟩
theorem ls_src (F:FuncId) (hE:Ent F) (p:Src→ByteArray) (l:List Src) (A:Option Addr) (n c:Nat) (w:World) (hl:l.length=n) (hn:n≤100000000) (hk:SrcsAt w A l) (hz:sumS (l.map p)≤1000000000)
  (hF:∀x∈l,∀(W:World),Ext w W→(x.tb.size≤9223372036854775807∧x.al.size≤9223372036854775807)→Calls Tryz.prog F #[.agg #[.string x.tb,.string x.al]] W fun r W'=>r= .returned (.string (p x))∧Ext W W'):
  Calls Tryz.prog 211 #[.slice A n c,.func (Fn.func F) #[] #[]] w fun r w'=>r= .returned (.string (cma (l.map p)))∧Ext w w':=by
 unfold Ent at hE
 obtain⟨i0,hi,hz0,hz1,hz2⟩:=info_parts info_str
 have HL:=hid hl
 have HK:=hid hk
 have HF:=hid hF
 have HZ:=hid hz
 clear hl hk hF hz
 go_enter Tryz.func211,Tryz.ntmps211
 go_wp2_with fail
 go_loopw [5,10] (fun nv iv wr=> ∃(k:Nat),k≤n∧iv= .int .i64 k∧wr.ownsRow w.heap.size 9 1 nv k (strV ((l.take k).map p))∧Ext w wr) (fun _ i _=>n- (intOf i).toNat)
 case atStart=>exact⟨0,Nat.zero_le _,rfl,World.ownsRow_nil _ _ _ _,Ext.refl w⟩
 case round=>
  obtain⟨k,hkn,rfl,hown,hxr⟩:=hrel
  have HO:=hid hown
  have HXr:=hid hxr
  clear hown
  by_cases hlt:k<n
  ·obtain⟨x,hx⟩:=rat_lt HL.out hlt
   obtain⟨hc,b,off,rfl,q0,q1⟩:=(HK.out.ext hxr) k x hx
   have HC:=hid (fun W (hW:Ext wr W)=>HF.out x (List.mem_of_getElem? hx) W (hxr.trans hW) hc)
   have HT:Hid ((l.take (k+1)).map p=(l.take k).map p++ [p x]):=by unfold Hid;rw[takeA hx,List.map_append];rfl
   clear hx hxr
   go_wp2_with fail
   refine(HC.out _ ((Ext.refl wr).alloc _)).mono ?_
   rintro _ w2 ⟨rfl,hx2⟩
   have HX2:Hid (Ext wr w2):=((Ext.refl wr).alloc _).trans hx2
   clear hx2
   have HO1:=hid ((ownN_ext HO.out HX2.out).alloc (.cells #[.string (p x)] 9))
   have HRd:=hid (reads_new1 w2 (.string (p x)) 9)
   go_wp2_with (at_builtin;refine wpList_append_any _ rfl (.tmp 14) (.tmp 18) 101 rfl w.heap.size 9 i0 _ 1 16 Tryz.underlying101 hi hz0 hz1 hz2 rfl (by decide) _ k _ rfl HO1.out _ _ 1 1 [.string (p x)] rfl HRd.out (by simp[Value.oneCell']) (by unfold maxLen;omega) (by omega) (Nat.le_trans (HXr.out.trans HX2.out).size (by simp)) ?_;intro v1 w5 hown5 hgr5 hblk5;have HO5:=hid hown5;have HG5:=hid hgr5;clear hown5 hgr5 hblk5)
   go_roundw
   case rel=>
    have hge:=own_atN HO.out
    refine⟨k+1,by omega,by go_num,?_,(((HXr.out.trans HX2.out).alloc _)).grown HG5.out fun q hq=>hge q hq⟩
    rw[HT.out]
    unfold strV
    rw[List.map_append]
    exact HO5.out
   case measure=>simp[intOf];omega
  ·obtain rfl:k=n:=by omega
   rw[List.take_of_length_le (Nat.le_of_eq HL.out)]at HO
   have HJ:=hid (join_own (l.map p) _ _ _ wr HO.out HZ.out)
   go_wp2_with (go_at_call 203;refine HJ.out.mono ?_;rintro _ w2 ⟨rfl,hx2⟩)
   go_ret
   exact⟨rfl,HXr.out.trans hx2⟩
theorem ls_ord (F:FuncId) (hE:Ent F) (p:Ord'→ByteArray) (l:List Ord') (A:Option Addr) (n c:Nat) (w:World) (hl:l.length=n) (hn:n≤100000000) (hk:OrdsAt w A l) (hz:sumS (l.map p)≤1000000000)
  (hF:∀x∈l,∀(W:World),Ext w W→I64 x.it→Calls Tryz.prog F #[.agg #[.int .i64 x.it,.bool x.ds]] W fun r W'=>r= .returned (.string (p x))∧Ext W W'):
  Calls Tryz.prog 213 #[.slice A n c,.func (Fn.func F) #[] #[]] w fun r w'=>r= .returned (.string (cma (l.map p)))∧Ext w w':=by
 unfold Ent at hE
 obtain⟨i0,hi,hz0,hz1,hz2⟩:=info_parts info_str
 have HL:=hid hl
 have HK:=hid hk
 have HF:=hid hF
 have HZ:=hid hz
 clear hl hk hF hz
 go_enter Tryz.func213,Tryz.ntmps213
 go_wp2_with fail
 go_loopw [5,10] (fun nv iv wr=> ∃(k:Nat),k≤n∧iv= .int .i64 k∧wr.ownsRow w.heap.size 9 1 nv k (strV ((l.take k).map p))∧Ext w wr) (fun _ i _=>n- (intOf i).toNat)
 case atStart=>exact⟨0,Nat.zero_le _,rfl,World.ownsRow_nil _ _ _ _,Ext.refl w⟩
 case round=>
  obtain⟨k,hkn,rfl,hown,hxr⟩:=hrel
  have HO:=hid hown
  have HXr:=hid hxr
  clear hown
  by_cases hlt:k<n
  ·obtain⟨x,hx⟩:=rat_lt HL.out hlt
   obtain⟨hc,b,off,rfl,q0,q1⟩:=(HK.out.ext hxr) k x hx
   have HC:=hid (fun W (hW:Ext wr W)=>HF.out x (List.mem_of_getElem? hx) W (hxr.trans hW) hc)
   have HT:Hid ((l.take (k+1)).map p=(l.take k).map p++ [p x]):=by unfold Hid;rw[takeA hx,List.map_append];rfl
   clear hx hxr
   go_wp2_with fail
   refine(HC.out _ ((Ext.refl wr).alloc _)).mono ?_
   rintro _ w2 ⟨rfl,hx2⟩
   have HX2:Hid (Ext wr w2):=((Ext.refl wr).alloc _).trans hx2
   clear hx2
   have HO1:=hid ((ownN_ext HO.out HX2.out).alloc (.cells #[.string (p x)] 9))
   have HRd:=hid (reads_new1 w2 (.string (p x)) 9)
   go_wp2_with (at_builtin;refine wpList_append_any _ rfl (.tmp 14) (.tmp 18) 101 rfl w.heap.size 9 i0 _ 1 16 Tryz.underlying101 hi hz0 hz1 hz2 rfl (by decide) _ k _ rfl HO1.out _ _ 1 1 [.string (p x)] rfl HRd.out (by simp[Value.oneCell']) (by unfold maxLen;omega) (by omega) (Nat.le_trans (HXr.out.trans HX2.out).size (by simp)) ?_;intro v1 w5 hown5 hgr5 hblk5;have HO5:=hid hown5;have HG5:=hid hgr5;clear hown5 hgr5 hblk5)
   go_roundw
   case rel=>
    have hge:=own_atN HO.out
    refine⟨k+1,by omega,by go_num,?_,(((HXr.out.trans HX2.out).alloc _)).grown HG5.out fun q hq=>hge q hq⟩
    rw[HT.out]
    unfold strV
    rw[List.map_append]
    exact HO5.out
   case measure=>simp[intOf];omega
  ·obtain rfl:k=n:=by omega
   rw[List.take_of_length_le (Nat.le_of_eq HL.out)]at HO
   have HJ:=hid (join_own (l.map p) _ _ _ wr HO.out HZ.out)
   go_wp2_with (go_at_call 203;refine HJ.out.mono ?_;rintro _ w2 ⟨rfl,hx2⟩)
   go_ret
   exact⟨rfl,HXr.out.trans hx2⟩
end Go.Proofs.YtjigcpfjhfoheaaGreatDoor
