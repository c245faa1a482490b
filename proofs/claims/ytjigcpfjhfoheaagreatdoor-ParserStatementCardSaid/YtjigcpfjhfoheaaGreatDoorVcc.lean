/- Steps of the laws' walks: a guarded load, a guarded build; long; Walks over the reference: open, end; Walk over the reference: Script; What the reference's Statement and Script return. -/
import Derived.Great.BuildSlice
import Derived.Test.YtjigcpfjhfoheaaGreatDoorVcb
import Derived.Test.YtjigcpfjhfoheaaGreatDoorVbg
namespace Go.Proofs.YtjigcpfjhfoheaaGreatDoor
open Go.RowKit List Go.Proofs.Tryz
set_option maxHeartbeats 4000000
set_option maxRecDepth 100000
set_option linter.unusedVariables false
set_option linter.unusedSimpArgs false
theorem vH (s:BA) (w:World) (a:s.size≤maxLen):Cl 12 #[.string s] w fun e w'=>e= .returned (.bool (decide ((1500:Int)<(s.size:Int))))∧Ext w w':=by
 go_enter func12,ntmps12
 go_wp2_with fail
 go_ret
 exact⟨rfl,Ext.refl w⟩
section
open Lx (Tk)
theorem rR (s:BA) (w:World) (hs:s.size≤20000):
  Cl 32 #[.string s] w fun e w'=>Ext w w'∧((∃a x:Nat,Lx.tokAll s= .bad a x∧x≠0∧e= .returned (.tuple #[.pointer none,i4 a,i4 x]))∨
   ∃(L:List Tk) (P:Nat) (A:OA) (c:Nat),Lx.tokAll s= .ok L∧e= .returned (.tuple #[.pointer (some ⟨P,0,none⟩),i4 0,i4 0])∧PsAt 77 P A c L w w' ⟨L,false⟩):=by
 have C:=hid (Lx.rtokens_cap s w hs)
 go_enter func32,ntmps32
 go_wp2_with fail
 refine C.mono ?_
 rintro e r ⟨v,rfl,⟨A,c,rfl,f,p⟩,z⟩
 have o:=hid z
 cases g:Lx.tokAll s with
 |bad a x=>
  have u:=all_err g
  have G:¬((x:Int)=0):=by omega
  rw[g]at f p
  have j:Lx.lsL (.bad a x)= []:=rfl
  have m:Lx.lsP (.bad a x)=a:=rfl
  have n:Lx.lsE (.bad a x)=x:=rfl
  rw[j,m,n]
  clear f p j m n
  go_wp2_with fail
  go_ret3
  exact⟨o,.inl ⟨a,x,g,u,rfl⟩⟩
 |ok l=>
  rw[g]at f p
  have j:Lx.lsL (.ok l)=l:=rfl
  have m:Lx.lsP (.ok l)=0:=rfl
  have n:Lx.lsE (.ok l)=0:=rfl
  rw[j]at f
  rw[j,m,n]
  have t:=hid f
  have H:=hid (gS g)
  have D:=hid g
  have k:Hid (0<l.length):=by
   unfold Lx.tokAll at g
   split at g
   ·cases g
   ·exact(mt _ _ _ l g).len.1
  have B:=hid (Blk.of_new r 77 [.slice A l.length c,i4 0,.bool false])
  clear f p j m n z
  go_wp2_with fail
  go_ret3
  refine⟨o.alloc _,.inr ⟨l,r.heap.size,A,c,g,rfl,?_⟩⟩
  refine⟨o.alloc _,o.size,?_,by simp,k,fun i a F=>?_⟩
  ·rw[Nat.sub_self]
   exact B
  ·obtain⟨b,y,E,c0,c1,c2⟩:=t i a F
   have h:=x10 r (.cells #[.slice A l.length c,i4 0,.bool false] 77)
   exact⟨b,y,E,World.block_lt_of_cell? r _ c0,h.keep c0,h.keep c1,h.keep c2⟩
end
section
open Lx (Tk)
theorem stm_same (n:Nat) (st:Ps) (h:(stmR n st).2.bad=false):stmR n st=stmP n st:=by
 rcases o5 n st with h1|⟨h1,h2⟩
 ·exact h1.symm
 ·rw[←h1,h2]at h
  cases h
end
section
open Lx (Tk)
theorem oH {s:BA} {L:List Tk} (h:Lx.tokAll s= .ok L) {st:Ps} (f:st.r=L.drop (L.length-st.r.length)) (b:(stmR (L.length+1) st).2.bad=false) {a:SA} {W:World} (g:StW W (stmR (L.length+1) st).1 a):
  Cl 35 #[St.val (stmR (L.length+1) st).1 a] W (Rt (i4 (validS (stmR (L.length+1) st).1)) W):=by
 have e:=stm_same _ _ b
 rw[e]at b g ⊢
 obtain⟨_,k,i⟩:=read_at h f (n:=L.length+1) (Nat.lt_succ_self _) b
 exact oz _ a W g.1 (by rw[rall_len];omega) fun j=>Nat.le_trans (i (by rw[←lE];exact j)) (by omega)
end
end Go.Proofs.YtjigcpfjhfoheaaGreatDoor
