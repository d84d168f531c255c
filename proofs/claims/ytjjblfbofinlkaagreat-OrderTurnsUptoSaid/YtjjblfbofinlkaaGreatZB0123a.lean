/- Texts for the claim, put together: the calculus of regions, its rules, and contracts of the functions that the law reaches. -/
import Derived.Test.YtjjblfbofinlkaaGreatZBwg
set_option linter.all false
set_option maxRecDepth 10000
namespace Kb
open Go Go.Proofs
theorem ocy_s (k:ByteArray) (c:List DImport) (l:SV) (d:List DInput) (m:SV) (e:List DTable) (n:SV) (b:List DFunc) (o:SV) (a:List DCell) (p:SV) (f:List DPort) (q:SV) (i:List DStore) (r:SV) (j:List DRecipe) (t:SV) (gg:List (List Int)) (gc:List Int) (hS:Sx.Sml k c d e b a f i j) (hL:(c.length:Int)+d.length+e.length+b.length+a.length+f.length+i.length+j.length≤100000000) (h7:(a.length:Int)≤7) (hs:(Zo.snd k c d e b a f i j)) (w:gg=(Zo.grf (b.map Zc.fe) a)) (A:gc=Zo.cycle gg) :
  Ct Tryz.prog 18 #[ag (DSheet.mk k ⟨c,l⟩ ⟨d,m⟩ ⟨e,n⟩ ⟨b,o⟩ ⟨a,p⟩ ⟨f,q⟩ ⟨i,r⟩ ⟨j,t⟩)] [fs true c l,fs true d m,fs true e n,fs true b o,fs true a p,fs true f q,fs true i r,fs true j t] [] (fun g=>((g.ss 0)).v) (fun g=>[fs true (gc) (g.ss 0)]) (fun g=>[]) (fun g=>[]):=by
 have h:=ocy_ct k c l d m e n b o a p f q i r j t hS hL;rw [if_pos hs,← w,← A] at h;exact h
end Kb
