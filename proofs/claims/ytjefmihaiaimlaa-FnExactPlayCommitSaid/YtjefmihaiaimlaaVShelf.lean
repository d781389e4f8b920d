-- The print's words, those alone that this law names (trim.py).
import Derived.Shelf.Slices.Turned
import Derived.Ground.Names2Prog
import Derived.Shelf.Slices.Clone
import Derived.Test.YtjefmihaiaimlaaProg
