/- Numbers as text: strconv.FormatInt at base 10 over a world in which the table of powers stands, and NumText of both programs. No condition. -/
import Derived.Shelf.Strconv.Itoa4
import Derived.Shelf.Lay
import Derived.Ground.NamesProg
import Derived.Test.YtcgekblpbheikaaGreatDoorQS1
import Derived.Test.YtcgekblpbheikaaGreatDoorQE9
section
namespace Go.Proofs.YtcgekblpbheikaaGreatDoor
set_option linter.unusedVariables false
set_option linter.unusedSimpArgs false
set_option maxRecDepth 100000
end Go.Proofs.YtcgekblpbheikaaGreatDoor
end

section
namespace Go.Proofs
open Go.Shelf
shelf_lay LaysM.n173 Nm 173 at Tryz as Tryz.lays173
end Go.Proofs
namespace Go.Proofs.YtcgekblpbheikaaGreatDoor
set_option maxRecDepth 100000
set_option linter.unusedSimpArgs false
set_option linter.unusedVariables false
def numB (n:Int):ByteArray:=⟨(Lib.itoa n).toArray⟩
theorem Lo.tab10 {X : Nat → Prop} {w : World} {φ : List (Nat × Nat)} {H : Heap} (h : Lo X w φ H) : Lib.TabIs Tryz.prog w "internal/strconv.uint64pow10" .u64 Lib.pow10Tab := by
  obtain ⟨_,t,fr,h⟩:=h.tab 1 _ rfl
  unfold Lib.TabIs World.var?
  rw [show Tryz.prog.globalNamed "internal/strconv.uint64pow10" = some 1 by kernel_rfl]
  simp only [Option.bind_some,h]
theorem formatInt_c (n:Int) (hn:Enc.good n):PureP Tryz.prog 183 [.d (.int .i64 n),.d (.int .i64 10)] (· = .d (.str (numB n))):=by
  refine ⟨by kernel_rfl,fun X w φ args hX hs hv=>?_⟩
  have hφ:φ=[]:=List.length_eq_zero_iff.1 hs.len
  subst hφ
  have ha:args=#[.int .i64 n,.int .i64 10]:=by
    apply Array.ext'
    obtain ⟨v,vs,e1,h1,v2,vs2,e2,h2,h3⟩:=hv
    have h1:v=.int .i64 n:=h1
    have h2:v2=.int .i64 10:=h2
    have h3:vs2=[]:=h3
    rw [e1,e2,h1,h2,h3]
  subst ha
  refine (Any.strconv_FormatInt_10 Tryz.lays173 n hn.1 hn.2 w hX.tab10).mono ?_
  rintro e w' ⟨rfl,k,os,rfl⟩
  have hh:∀ g,g < w.heap.size→(Go.Sort.grow (w.drewN k) os).heap[g]? = w.heap[g]?:=fun g hg=>by
    show (w.heap++os)[g]? = _
    rw [Array.getElem?_append_left hg]
  refine ⟨_,.d (.str (numB n)),[],[],rfl,⟨rfl,rfl⟩,HS.nil _ _,by simp [VS,DS,numB],⟨rfl,rfl,rfl, ?_,fun g hg _=>hh g hg,fun g cs t fr hg=>?_⟩,fun id hid=>absurd hid (by simp),Nat.le_refl _, ?_⟩
  · show w.heap.size≤(w.heap++os).size
    simp
  · exact ⟨cs,fr,by rw [hh g (Array.getElem?_eq_some_iff.1 hg).1];exact hg,rfl⟩
  · rintro g hg ⟨id,e,es,o,h1,_⟩
    simp at h1
noncomputable def K_183:Ent Tryz.prog:=Ent.p2 (α:=Int) (β:=Int) 183 (fun n b=>Enc.good n∧b=10) (fun n b=>.d (.str (numB n))) (fun n b hc=>hc.2 ▸ formatInt_c n hc.1)
theorem K_183_f:K_183.f=183:=rfl
theorem K_183_e (n:Int) (b:Int):K_183.e [.d (.int .i64 n),.d (.int .i64 b)]=some (Enc.good n∧b=10,.d (.str (numB n)),[]):=by unfold K_183;exact Ent.p2_eq (α:=Int) (β:=Int) n b
noncomputable def K_183h:EntH Tryz.prog:=EntH.pk2 (α:=Int) (β:=Int) 183 (fun n b=>Enc.good n∧b=10) (fun n b=>.d (.str (numB n))) (fun n b=>[]) (fun n b hc=>PureP.ans (hc.2 ▸ formatInt_c n hc.1))
theorem K_183h_f:K_183h.f=183:=rfl
theorem K_183h_g:K_183h.gro=true:=rfl
theorem K_183h_e {x1 x2:V} {H:Heap}:K_183h.e [x1,x2] H=guardR ((decA (α:=Int) H x1).1∧(decA (α:=Int) H x2).1) (peekR (Enc.good (decA (α:=Int) H x1).2∧(decA (α:=Int) H x2).2=10) (.d (.str (numB (decA (α:=Int) H x1).2))) ([]) H):=rfl
theorem numTextI_c (n:Int) (hn:Enc.good n):PureP Tryz.prog 109 [.d (.int .i64 n)] (· = .d (.str (numB n))):=by
  refine pure_of Tryz.func109 en_109 rfl rfl (W_run mixed ⟨[K_183],[K_183h],[],5,0,[0,2],[]⟩ (fun _=>[]) (by kernel_rfl) ?_)
  simp only [Tryz.f109,stripX,stripOps,pickOps]
  simp [K_183_f,K_183_e,K_183h_f,K_183h_e,K_183h_g,hn]
noncomputable def K_109:Ent Tryz.prog:=Ent.p1 (α:=Int) 109 (fun n=>Enc.good n) (fun n=>.d (.str (numB n))) (fun n hc=>numTextI_c n hc)
theorem K_109_f:K_109.f=109:=rfl
theorem K_109_e (n:Int):K_109.e [.d (.int .i64 n)]=some (Enc.good n,.d (.str (numB n)),[]):=by unfold K_109;exact Ent.p1_eq (α:=Int) n
noncomputable def K_109h:EntH Tryz.prog:=EntH.pk1 (α:=Int) 109 (fun n=>Enc.good n) (fun n=>.d (.str (numB n))) (fun n=>[]) (fun n hc=>PureP.ans (numTextI_c n hc))
theorem K_109h_f:K_109h.f=109:=rfl
theorem K_109h_g:K_109h.gro=true:=rfl
theorem K_109h_e {x1:V} {H:Heap}:K_109h.e [x1] H=guardR ((decA (α:=Int) H x1).1) (peekR (Enc.good (decA (α:=Int) H x1).2) (.d (.str (numB (decA (α:=Int) H x1).2))) ([]) H):=rfl
end Go.Proofs.YtcgekblpbheikaaGreatDoor
end
