/- A call without arguments, carried out -/
import Derived.Test.YthbmhbldmcbnpaaGreatDoorYTAX
import Derived.KernelRfl
set_option linter.all false
namespace Go.Proofs.YthbmhbldmcbnpaaGreatDoor
open Go.Am
set_option maxRecDepth 100000
theorem HK:gQ prg 11201 skG26 LC LB=true:=by kernel_rfl
theorem HJ:fq prg 1664 34 skG27 LB LA=true:=by kernel_rfl
theorem HI:gQ prg 560 skG28 LA Lz=true:=by kernel_rfl
theorem HH:fq prg 1856 36 skG29 Lz Ly=true:=by kernel_rfl
theorem HG:gQ prg 478 skG30 Ly Lx=true:=by kernel_rfl
theorem HF:fq prg 1378 36 skG31 Lx Lw=true:=by kernel_rfl
theorem HE:gQ prg 10090 skG32 Lw Lv=true:=by kernel_rfl
theorem HD:fq prg 1856 14 skG33 Lv Lu=true:=by kernel_rfl
theorem HC:gQ prg 234 skG34 Lu Lt=true:=by kernel_rfl
theorem HB:fq prg 1856 17 skG35 Lt Ls=true:=by kernel_rfl
theorem HA:gQ prg 248 skG36 Ls Lr=true:=by kernel_rfl
theorem Hz:fq prg 1856 22 skG37 Lr Lq=true:=by kernel_rfl
theorem Hy:gQ prg 5036 skG38 Lq Lp=true:=by kernel_rfl
theorem Hx:fq prg 1856 14 skG39 Lp Lo=true:=by kernel_rfl
theorem Hw:gQ prg 234 skG40 Lo Ln=true:=by kernel_rfl
theorem Hv:fq prg 1856 17 skG41 Ln Lm=true:=by kernel_rfl
theorem Hu:gQ prg 248 skG42 Lm Ll=true:=by kernel_rfl
theorem Ht:fq prg 1856 22 skG43 Ll Lj=true:=by kernel_rfl
theorem Hs:gQ prg 5048 skG44 Lj Li=true:=by kernel_rfl
theorem Hr:fq prg 1378 14 skG45 Li Lh=true:=by kernel_rfl
theorem Hq:gQ prg 234 skG46 Lh Lg=true:=by kernel_rfl
theorem Hp:fq prg 1378 17 skG47 Lg Lf=true:=by kernel_rfl
theorem Ho:gQ prg 301 skG48 Lf Le=true:=by kernel_rfl
open Go.Am
set_option maxRecDepth 100000
theorem Hn:fq prg 5632 6 skG49 Le Lc=true:=by kernel_rfl
theorem skEnd:vH prg 29 Lc=true:=by kernel_rfl
end Go.Proofs.YthbmhbldmcbnpaaGreatDoor
